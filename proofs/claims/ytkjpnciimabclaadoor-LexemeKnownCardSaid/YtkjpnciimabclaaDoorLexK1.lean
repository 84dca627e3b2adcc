/-
  LAYER 4, THE LAWS' HELPERS: tokens by numbers: the digits of a number, the keywords, what stands in front of a token.
-/
import Derived.Test.YtkjpnciimabclaaDoorLexL2
import Derived.Test.YtkjpnciimabclaaDoorLexC
import Derived.Deep.RegionHeld3
namespace Go.Proofs.YtkjpnciimabclaaDoor
open Go.ChangeShapes Go.WideShapes Go.ChangeAt Go.RowKit

set_option maxHeartbeats 1000000 in
set_option maxRecDepth 100000 in
/-- rewindlaw04.decimal. -/
theorem decimal_any (N : Nat) (hN : N < 18446744073709551616) (w : World) : Calls Tryd.prog 30 #[.int .u64 N] w fun e w' => e = .returned (.string ⟨(Lib.decDigits N).toArray⟩) ∧ Below w.heap.size w w' := by
  obtain ⟨R, hR⟩ : ∃ R, Lib.decDigits N = R := ⟨_, rfl⟩
  rw [hR]
  have hlen := Dec.dec_length_le hN
  rw [hR] at hlen
  have HR := Lib.hid hR
  clear hR
  go_enter Tryd.func30, Tryd.ntmps30
  go_wp2_with fail
  go_loopw [0, 3] (fun n s wr => ∃ (m : Nat) (t : List UInt8), m < 18446744073709551616 ∧ n = .int .u64 m ∧ s = .string ⟨t.toArray⟩ ∧ t.length ≤ 20 ∧ Hid (R = Lib.decDigits m ++ t) ∧ Hid (Below w.heap.size w wr)) (fun n _ _ => (intOf n).toNat)
  case atStart => exact ⟨N, [], hN, rfl, rfl, by simp, Lib.hid (by rw [HR.out, List.append_nil]), Lib.hid (Below.refl _ _)⟩
  case round =>
    obtain ⟨m, t, hm, rfl, rfl, ht, HT, HB⟩ := hrel
    have hd : m % 10 < 10 := Nat.mod_lt _ (by decide)
    have l1 : ¬ 9223372036854775807 < 1 + t.length := by omega
    have hb : (UInt8.ofNat (48 + m % 10)).toNat = 48 + m % 10 := Dec.digByte _ hd
    have hs0 : m < 10 → Lib.decDigits m = [UInt8.ofNat (48 + m % 10)] := fun h => by rw [Dec.dec_small h, Nat.mod_eq_of_lt h]
    have hs1 : ¬ m < 10 → Lib.decDigits m = Lib.decDigits (m / 10) ++ [UInt8.ofNat (48 + m % 10)] := fun h => Dec.dec_big h
    generalize UInt8.ofNat (48 + m % 10) = c at hb hs0 hs1
    have HS0 := Lib.hid hs0
    have HS1 := Lib.hid hs1
    clear hs0 hs1
    have hconv : (convert 63 9 (.slice (some ⟨wr.heap.size, 0, none⟩) 1 1)).run Tryd.prog (wr.alloc (.cells #[.int .u8 (48 + (m : Int) % 10)] 5)) = .ok (.string ⟨[c].toArray⟩) (wr.alloc (.cells #[.int .u8 (48 + (m : Int) % 10)] 5)) :=
      run_convert_bytes_back _ _ _ 5 ⟨wr.heap.size, 0, none⟩ 1 [c] Tryd.underlying63 Tryd.underlying5 Tryd.underlying9 (fun j hj => by
        obtain rfl : j = 0 := by simpa using hj
        have h1 := (Blk.new wr 5 #[.int .u8 (48 + (m : Int) % 10)]).cell 0
        have h2 : (⟨wr.heap.size, 0, none⟩ : Addr).add 0 = ⟨wr.heap.size, 0, none⟩ := rfl
        rw [h2, h1]
        show some (Value.int .u8 (48 + (m : Int) % 10)) = some (Value.int .u8 (c.toNat : Int))
        rw [hb]
        simp)
    have HB2 := Lib.hid (below_new HB.out (.cells #[.int .u8 (48 + (m : Int) % 10)] 5))
    by_cases h0 : m < 10
    · have HF : Hid (R = c :: t) := Lib.hid (by rw [HT.out, HS0.out h0]; rfl)
      have hwr : IntKind.u64.wrap ((m : Int).tdiv 10) = 0 := by rw [IntKind.wrap_u64, Int.tdiv_eq_ediv_of_nonneg (by omega)]; omega
      go_wp2_with fail
      go_ret
      exact ⟨ret_str (by rw [ByteArray.mk_append_mk, HF.out]; rfl), HB2.out⟩
    · have HF : Hid (R = Lib.decDigits (m / 10) ++ (c :: t)) := Lib.hid (by rw [HT.out, HS1.out h0]; simp)
      have hlt : (c :: t).length ≤ 20 := by
        have h1 := congrArg List.length HF.out
        rw [List.length_append] at h1
        omega
      obtain ⟨q, hq⟩ : ∃ q, m / 10 = q := ⟨_, rfl⟩
      rw [hq] at HF
      have hwr : IntKind.u64.wrap ((m : Int).tdiv 10) = (q : Int) := by rw [IntKind.wrap_u64, Int.tdiv_eq_ediv_of_nonneg (by omega)]; omega
      have hqm : q < m := by omega
      have h0' : ¬ (q : Int) = 0 := by omega
      go_wp2_with fail
      go_roundw
      case rel => exact ⟨q, c :: t, by omega, by go_num, by rw [ByteArray.mk_append_mk]; rfl, hlt, HF, HB2⟩
      case measure => simp [intOf]; omega

/-- What stands in front of a token. -/
def gaps : List (List UInt8) := [[32], [10], [9, 13, 32], [32, 47, 47, 32, 120, 32, 34, 32, 47, 47, 32, 36, 32, 255, 10], [32, 47, 47, 10, 47, 47, 10, 32], [32, 32, 10]]
theorem gaps_ok : ∀ g ∈ gaps, Lex.Gap g ∧ (∃ c r, g = c :: r ∧ Lex.white c = true) ∧ g.length ≤ 20 := by
  intro g hg
  simp only [gaps, List.mem_cons, List.not_mem_nil, or_false] at hg
  rcases hg with rfl | rfl | rfl | rfl | rfl | rfl
  all_goals exact ⟨fun _ => rfl, ⟨_, _, rfl, by decide⟩, by decide⟩

abbrev pcA (k n g b : Int) : Array Value := #[.int .u8 k, .int .u8 n, .int .u8 g, .int .u64 b]
set_option maxHeartbeats 1000000 in
set_option maxRecDepth 100000 in
/-- (Piece).gap. -/
theorem gap_any (k n g b : Int) (g0 : 0 ≤ g) (w : World) : Calls Tryd.prog 18 #[.agg (pcA k n g b)] w fun e w' => (∃ G, e = .returned (.string ⟨G.toArray⟩) ∧ G ∈ gaps) ∧ Below w.heap.size w w' := by
  obtain ⟨q, hq, hq1⟩ : ∃ q : Nat, g.tmod 6 = (q : Int) ∧ q < 6 := by
    have := Int.tmod_eq_emod_of_nonneg (b := 6) g0
    exact ⟨(g.tmod 6).toNat, by omega, by omega⟩
  rcases (show q = 0 ∨ q = 1 ∨ q = 2 ∨ q = 3 ∨ q = 4 ∨ q = 5 by omega) with rfl | rfl | rfl | rfl | rfl | rfl
  · have hm : IntKind.u8.wrap (g.tmod 6) = 0 := by rw [hq]; rfl
    have hm2 : g.tmod 6 = 0 := hq
    have hm3 : g % 6 = 0 := by have := Int.tmod_eq_emod_of_nonneg (b := 6) g0; omega
    go_enter Tryd.func18, Tryd.ntmps18
    go_wp2
    go_ret
    exact ⟨⟨_, rfl, by decide⟩, below_new (below_new (Below.refl _ _) _) _⟩
  · have hm : IntKind.u8.wrap (g.tmod 6) = 1 := by rw [hq]; rfl
    have hm2 : g.tmod 6 = 1 := hq
    have hm3 : g % 6 = 1 := by have := Int.tmod_eq_emod_of_nonneg (b := 6) g0; omega
    go_enter Tryd.func18, Tryd.ntmps18
    go_wp2
    go_ret
    exact ⟨⟨_, rfl, by decide⟩, below_new (below_new (Below.refl _ _) _) _⟩
  · have hm : IntKind.u8.wrap (g.tmod 6) = 2 := by rw [hq]; rfl
    have hm2 : g.tmod 6 = 2 := hq
    have hm3 : g % 6 = 2 := by have := Int.tmod_eq_emod_of_nonneg (b := 6) g0; omega
    go_enter Tryd.func18, Tryd.ntmps18
    go_wp2
    go_ret
    exact ⟨⟨_, rfl, by decide⟩, below_new (below_new (Below.refl _ _) _) _⟩
  · have hm : IntKind.u8.wrap (g.tmod 6) = 3 := by rw [hq]; rfl
    have hm2 : g.tmod 6 = 3 := hq
    have hm3 : g % 6 = 3 := by have := Int.tmod_eq_emod_of_nonneg (b := 6) g0; omega
    go_enter Tryd.func18, Tryd.ntmps18
    go_wp2
    go_ret
    exact ⟨⟨_, rfl, by decide⟩, below_new (below_new (Below.refl _ _) _) _⟩
  · have hm : IntKind.u8.wrap (g.tmod 6) = 4 := by rw [hq]; rfl
    have hm2 : g.tmod 6 = 4 := hq
    have hm3 : g % 6 = 4 := by have := Int.tmod_eq_emod_of_nonneg (b := 6) g0; omega
    go_enter Tryd.func18, Tryd.ntmps18
    go_wp2
    go_ret
    exact ⟨⟨_, rfl, by decide⟩, below_new (below_new (Below.refl _ _) _) _⟩
  · have hm : IntKind.u8.wrap (g.tmod 6) = 5 := by rw [hq]; rfl
    have hm2 : g.tmod 6 = 5 := hq
    have hm3 : g % 6 = 5 := by have := Int.tmod_eq_emod_of_nonneg (b := 6) g0; omega
    go_enter Tryd.func18, Tryd.ntmps18
    go_wp2
    go_ret
    exact ⟨⟨_, rfl, by decide⟩, below_new (below_new (Below.refl _ _) _) _⟩
end Go.Proofs.YtkjpnciimabclaaDoor
