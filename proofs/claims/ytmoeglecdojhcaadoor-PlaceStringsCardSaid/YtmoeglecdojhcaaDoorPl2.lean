/-
  LAYER 1: offsets to places; the number of lines; places compared; places as strings.
-/
import Derived.Test.YtmoeglecdojhcaaDoorPl1
import Derived.Deep.RegionHeld3
import Derived.Laws.ResultCell
import Derived.Laws.Rows
namespace Go.Proofs.YtmoeglecdojhcaaDoor
open Go.ChangeShapes Go.WideShapes Go.ChangeAt Go.RowKit

theorem place_size : (Tryd.prog.info? 24).map (·.size) = some 2 := by kernel_rfl
/-- A place that is handed back out of its own block. -/
theorem results_place {fn : Func} {p u : Tmp} (h : fn.results = #[.cell p 24, .tmp u]) (tmps : Array Value) (w : World) (g : Nat) (cs : Array Value) (fr : Nat × Nat)
    (hp : tmps.getD p undef = .pointer (some ⟨g, 0, none⟩)) (hg : w.heap[g]? = some (.cells cs 24 fr)) (hs : cs.size = 2) :
    (results fn tmps).run Tryd.prog w = .ok (.tuple #[.agg cs, tmps.getD u undef]) w := by
  rw [results_cell_tmp h, hp]
  have hl := run_loadVar_row (P := Tryd.prog) w g 24 24 cs fr _ hg Tryd.underlying24 rfl (by rw [place_size, hs])
  simp [asAddr, Result.andThen, hl]
def pV (l c : Int) : Value := .agg #[.int .i64 l, .int .i64 c]
/-- What Of answers. -/
def ofL (s : List UInt8) (o : Int) : Int := if 0 ≤ o ∧ o ≤ s.length then (Pl.row (s.take o.toNat) : Nat) else 0
def ofC (s : List UInt8) (o : Int) : Int := if 0 ≤ o ∧ o ≤ s.length then (Pl.col (s.take o.toNat) : Nat) else 0
def ofE (s : List UInt8) (o : Int) : Int := if 0 ≤ o ∧ o ≤ s.length then 0 else 3
theorem ret_place {a b c a' b' c' : Int} (h1 : a = a') (h2 : b = b') (h3 : c = c') : Ending.returned (.tuple #[.agg #[.int .i64 a, .int .i64 b], .int .i64 c]) = .returned (.tuple #[pV a' b', .int .i64 c']) := by rw [h1, h2, h3]; rfl
theorem count_list (l : List UInt8) : Lib.countByte (⟨l.toArray⟩ : ByteArray).data.toList 10 = l.count 10 := rfl

theorem count_any (s : List UInt8) (hs : s.length ≤ 1000000) (w : World) : Calls Tryd.prog 18 #[.string ⟨s.toArray⟩] w fun e w' => e = .returned (.int .i64 (1 + (s.count 10 : Nat))) ∧ Below w.heap.size w w' := by
  have hc : s.count 10 ≤ s.length := List.count_le_length
  go_enter Tryd.func18, Tryd.ntmps18
  go_wp2_with fail
  refine (Tryd.strings_Count_one ⟨s.toArray⟩ 10 _).mono ?_
  rintro e w2 ⟨rfl, rfl⟩
  rw [count_list]
  go_wp2_with fail
  go_ret
  exact ⟨ret_int (by omega), Below.refl _ _⟩
theorem of_any (s : List UInt8) (hs : s.length ≤ 1000000) (o : Int) (o0 : -9223372036854775808 ≤ o) (o1 : o ≤ 9223372036854775807) (w : World) :
    Calls Tryd.prog 12 #[.string ⟨s.toArray⟩, .int .i64 o] w fun e w' => e = .returned (.tuple #[pV (ofL s o) (ofC s o), .int .i64 (ofE s o)]) ∧ Below w.heap.size w w' := by
  by_cases h : 0 ≤ o ∧ o ≤ s.length
  · obtain ⟨h0, h1⟩ := h
    obtain ⟨k, rfl⟩ : ∃ k : Nat, o = (k : Int) := ⟨o.toNat, by omega⟩
    have e1 : ofL s k = (Pl.row (s.take k) : Nat) := by unfold ofL; rw [if_pos ⟨h0, h1⟩]; rfl
    have e2 : ofC s k = (Pl.col (s.take k) : Nat) := by unfold ofC; rw [if_pos ⟨h0, h1⟩]; rfl
    have e3 : ofE s k = 0 := by unfold ofE; rw [if_pos ⟨h0, h1⟩]
    rw [e1, e2, e3]
    clear e1 e2 e3
    have hx : (⟨s.toArray⟩ : ByteArray).extract 0 k = ⟨(s.take k).toArray⟩ := by rw [mk_extract, List.drop_zero, Nat.sub_zero]
    have hcol := Pl.last_col (s.take k)
    have hcl := Pl.col_le (s.take k)
    have hcp := Pl.col_pos (s.take k)
    have hlen : (s.take k).length = k := by rw [List.length_take]; omega
    rw [hlen] at hcol hcl
    have hcnt : (s.take k).count 10 ≤ (s.take k).length := List.count_le_length
    have HR : Hid (1 + ((s.take k).count 10 : Int) = (Pl.row (s.take k) : Nat)) := Lib.hid (by unfold Pl.row Pl.advR; omega)
    have HC := Lib.hid hcol
    obtain ⟨V, hV⟩ : ∃ V, Lib.lastIndexByte ⟨(s.take k).toArray⟩ 10 = V := ⟨_, rfl⟩
    rw [hV] at hcol HC
    have HV := Lib.hid hV
    have b1 : -1 ≤ V := by omega
    have b2 : V ≤ 1000000 := by omega
    have hk : k ≤ 1000000 := by omega
    rw [hlen] at hcnt
    obtain ⟨U, hU⟩ : ∃ U, s.take k = U := ⟨_, rfl⟩
    rw [hU] at hx HR HC HV hlen hcnt
    rw [hU]
    clear hcol hV hU hcl hcp
    go_enter Tryd.func12, Tryd.ntmps12
    go_wp2_with fail
    refine (Tryd.strings_Count_one ⟨U.toArray⟩ 10 _).mono ?_
    rintro e w2 ⟨rfl, rfl⟩
    rw [count_list]
    go_wp2_with fail
    refine (Tryd.strings_LastIndexByte ⟨U.toArray⟩ 10 (by rw [mk_size]; omega) _).mono ?_
    rintro e w2 ⟨rfl, rfl⟩
    rw [HV.out]
    go_wp2_with fail
    refine bodyPost_ret (results_place rfl _ _ w.heap.size _ _ rfl (heap_alloc_new w _) rfl) rfl ?_
    exact ⟨ret_place (by rw [← HR.out]) (by rw [← HC.out]) rfl, below_new (Below.refl _ _) _⟩
  · have e1 : ofL s o = 0 := by unfold ofL; rw [if_neg h]
    have e2 : ofC s o = 0 := by unfold ofC; rw [if_neg h]
    have e3 : ofE s o = 3 := by unfold ofE; rw [if_neg h]
    rw [e1, e2, e3]
    clear e1 e2 e3
    by_cases h0 : o < 0
    · clear h
      go_enter Tryd.func12, Tryd.ntmps12
      go_wp2_with fail
      refine bodyPost_ret (results_place rfl _ _ w.heap.size _ _ rfl (heap_alloc_new w _) rfl) rfl ?_
      exact ⟨ret_place rfl rfl rfl, below_new (Below.refl _ _) _⟩
    · have h1 : (s.length : Int) < o := by omega
      have h0' : ¬ o < 0 := h0
      clear h
      go_enter Tryd.func12, Tryd.ntmps12
      go_wp2_with fail
      refine bodyPost_ret (results_place rfl _ _ w.heap.size _ _ rfl (heap_alloc_new w _) rfl) rfl ?_
      exact ⟨ret_place rfl rfl rfl, below_new (Below.refl _ _) _⟩

end Go.Proofs.YtmoeglecdojhcaaDoor
