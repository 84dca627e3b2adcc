/-
  LAYER 16: a draft's value; the number that a numeral says.
-/
import Derived.Test.YtfghigioofaidaaDoorVal8
import Derived.Laws.Bits128
import Derived.Deep.RegionHeld3
namespace Go.Proofs.YtfghigioofaidaaDoor
open Go.ChangeShapes Go.WideShapes Go.ChangeAt Go.RowKit

/-! ### Masks -/

theorem mask1 (n : Int) : bits .and .i64 n 1 = n % 2 := by
  have h1 : (BitVec.ofInt 64 1).toNat = 2 ^ 1 - 1 := by decide
  have key : (BitVec.ofInt 64 n &&& BitVec.ofInt 64 1).toNat = (n % ((2 ^ 64 : Nat) : Int)).toNat % 2 ^ 1 := by
    rw [BitVec.toNat_and, BitVec.toNat_ofInt, h1, Nat.and_two_pow_sub_one_eq_mod]
  show IntKind.i64.wrap ((BitVec.ofInt 64 n &&& BitVec.ofInt 64 1).toNat : Nat) = n % 2
  rw [key, IntKind.wrap_i64]
  omega
theorem mask40 (n : Int) : bits .and .i64 n 1099511627775 = n % 1099511627776 := by
  have h1 : (BitVec.ofInt 64 1099511627775).toNat = 2 ^ 40 - 1 := by decide
  have key : (BitVec.ofInt 64 n &&& BitVec.ofInt 64 1099511627775).toNat = (n % ((2 ^ 64 : Nat) : Int)).toNat % 2 ^ 40 := by
    rw [BitVec.toNat_and, BitVec.toNat_ofInt, h1, Nat.and_two_pow_sub_one_eq_mod]
  show IntKind.i64.wrap ((BitVec.ofInt 64 n &&& BitVec.ofInt 64 1099511627775).toNat : Nat) = n % 1099511627776
  rw [key, IntKind.wrap_i64]
  omega

/-! ### Drafts -/

def drT (d : Int) : Int := d % 3 + 1
def drN (d n : Int) : Int := if d % 3 = 1 then n % 2 else if d % 3 = 2 then n % 1099511627776 else n
theorem dr_ok (d n : Int) : Val.chk (drT d) (drN d n) = 0 := by
  unfold Val.chk drT drN
  rcases (show d % 3 = 0 ∨ d % 3 = 1 ∨ d % 3 = 2 by omega) with h | h | h <;> simp [h] <;> omega
theorem dr_lo (d n : Int) (h : -9223372036854775808 ≤ n) : -9223372036854775808 ≤ drN d n := by
  unfold drN
  split
  · omega
  · split <;> omega
theorem dr_hi (d n : Int) (h : n ≤ 9223372036854775807) : drN d n ≤ 9223372036854775807 := by
  unfold drN
  split
  · omega
  · split <;> omega

set_option maxHeartbeats 1000000 in
/-- A draft is a value of its type and its number, cut to the type. -/
theorem made_any (d : Int) (d0 : 0 ≤ d) (n : Int) (w : World) :
    Calls Tryd.prog 19 #[.agg #[.int .u8 d, .int .i64 n]] w fun e w' => e = .returned (.tuple #[.agg #[.int .i64 (drT d), .int .i64 (drN d n)], .bool true]) ∧ Below w.heap.size w w' := by
  have HK := Lib.hid (dr_ok d n)
  rcases (show d % 3 = 0 ∨ d % 3 = 1 ∨ d % 3 = 2 by omega) with h | h | h
  · have ht : d.tmod 3 = 0 := by rw [Int.tmod_eq_emod_of_nonneg d0, h]
    have eT : drT d = 1 := by unfold drT; omega
    have eN : drN d n = n := by unfold drN; simp [h]
    rw [eT, eN] at HK ⊢
    have oT : Val.ofT 1 (n) = 1 := by unfold Val.ofT; rw [if_pos HK.out]
    have oN : Val.ofN 1 (n) = n := by unfold Val.ofN; rw [if_pos HK.out]
    go_enter Tryd.func19, Tryd.ntmps19
    go_wp2_with fail
    refine (of_any 1 (n) _).mono ?_
    rintro e w1 ⟨rfl, hb⟩
    rw [oT, oN, HK.out]
    have H := Lib.hid (below_new (below_call (below_new (below_new (below_new (Below.refl w.heap.size w) (.cells #[.int .u8 d, .int .i64 n] 37)) (.cells #[.int .i64 0, .int .i64 0] 23)) (.cells #[.int .i64 1, .int .i64 2, .int .i64 3] 3)) hb) (.cells #[.int .i64 1, .int .i64 (n)] 23))
    have R := (((Blk.new (w.alloc (.cells #[.int .u8 d, .int .i64 n] 37)) 23 #[.int .i64 0, .int .i64 0]).alloc (.cells #[.int .i64 1, .int .i64 2, .int .i64 3] 3)).below hb (by simp)).alloc (.cells #[.int .i64 1, .int .i64 (n)] 23)
    have V := Blk.new w1 23 #[.int .i64 1, .int .i64 (n)]
    rw [World.size_alloc] at R
    have r0 := R.cell 0
    have r1 := R.cell 1
    have f0 := R.frozen 0
    have f1 := R.frozen 1
    have v0 := V.cell 0
    have v1 := V.cell 1
    have ne1 : ¬ (w.heap.size + 1 = w1.heap.size) := by
      have := hb.size
      simp only [World.size_alloc] at this
      omega
    have ne2 : ¬ (w1.heap.size = w.heap.size + 1) := fun e => ne1 e.symm
    clear hb R V oT oN eT eN
    go_wp2_with fail
    go_region
    all_goals
      go_wp2_with fail
      refine bodyPost_ret (v := .tuple #[.agg #[.int .i64 1, .int .i64 (n)], .bool true]) (by simp [results, Tryd.results19, go_sem, r0, r1]) rfl ⟨rfl, ?_⟩
      exact ((H.out.setCell (by simp) _).setCell (by simp) _).drew
  · have ht : d.tmod 3 = 1 := by rw [Int.tmod_eq_emod_of_nonneg d0, h]
    have eT : drT d = 2 := by unfold drT; omega
    have eN : drN d n = n % 2 := by unfold drN; simp [h]
    rw [eT, eN] at HK ⊢
    have oT : Val.ofT 2 (n % 2) = 2 := by unfold Val.ofT; rw [if_pos HK.out]
    have oN : Val.ofN 2 (n % 2) = n % 2 := by unfold Val.ofN; rw [if_pos HK.out]
    have hm := mask1 n
    go_enter Tryd.func19, Tryd.ntmps19
    go_wp2_with fail
    refine (of_any 2 (n % 2) _).mono ?_
    rintro e w1 ⟨rfl, hb⟩
    rw [oT, oN, HK.out]
    have H := Lib.hid (below_new (below_call (below_new (below_new (below_new (Below.refl w.heap.size w) (.cells #[.int .u8 d, .int .i64 n] 37)) (.cells #[.int .i64 0, .int .i64 0] 23)) (.cells #[.int .i64 1, .int .i64 2, .int .i64 3] 3)) hb) (.cells #[.int .i64 2, .int .i64 (n % 2)] 23))
    have R := (((Blk.new (w.alloc (.cells #[.int .u8 d, .int .i64 n] 37)) 23 #[.int .i64 0, .int .i64 0]).alloc (.cells #[.int .i64 1, .int .i64 2, .int .i64 3] 3)).below hb (by simp)).alloc (.cells #[.int .i64 2, .int .i64 (n % 2)] 23)
    have V := Blk.new w1 23 #[.int .i64 2, .int .i64 (n % 2)]
    rw [World.size_alloc] at R
    have r0 := R.cell 0
    have r1 := R.cell 1
    have f0 := R.frozen 0
    have f1 := R.frozen 1
    have v0 := V.cell 0
    have v1 := V.cell 1
    have ne1 : ¬ (w.heap.size + 1 = w1.heap.size) := by
      have := hb.size
      simp only [World.size_alloc] at this
      omega
    have ne2 : ¬ (w1.heap.size = w.heap.size + 1) := fun e => ne1 e.symm
    clear hb R V oT oN eT eN
    go_wp2_with fail
    go_region
    all_goals
      go_wp2_with fail
      refine bodyPost_ret (v := .tuple #[.agg #[.int .i64 2, .int .i64 (n % 2)], .bool true]) (by simp [results, Tryd.results19, go_sem, r0, r1]) rfl ⟨rfl, ?_⟩
      exact ((H.out.setCell (by simp) _).setCell (by simp) _).drew
  · have ht : d.tmod 3 = 2 := by rw [Int.tmod_eq_emod_of_nonneg d0, h]
    have eT : drT d = 3 := by unfold drT; omega
    have eN : drN d n = n % 1099511627776 := by unfold drN; simp [h]
    rw [eT, eN] at HK ⊢
    have oT : Val.ofT 3 (n % 1099511627776) = 3 := by unfold Val.ofT; rw [if_pos HK.out]
    have oN : Val.ofN 3 (n % 1099511627776) = n % 1099511627776 := by unfold Val.ofN; rw [if_pos HK.out]
    have hm := mask40 n
    go_enter Tryd.func19, Tryd.ntmps19
    go_wp2_with fail
    refine (of_any 3 (n % 1099511627776) _).mono ?_
    rintro e w1 ⟨rfl, hb⟩
    rw [oT, oN, HK.out]
    have H := Lib.hid (below_new (below_call (below_new (below_new (below_new (Below.refl w.heap.size w) (.cells #[.int .u8 d, .int .i64 n] 37)) (.cells #[.int .i64 0, .int .i64 0] 23)) (.cells #[.int .i64 1, .int .i64 2, .int .i64 3] 3)) hb) (.cells #[.int .i64 3, .int .i64 (n % 1099511627776)] 23))
    have R := (((Blk.new (w.alloc (.cells #[.int .u8 d, .int .i64 n] 37)) 23 #[.int .i64 0, .int .i64 0]).alloc (.cells #[.int .i64 1, .int .i64 2, .int .i64 3] 3)).below hb (by simp)).alloc (.cells #[.int .i64 3, .int .i64 (n % 1099511627776)] 23)
    have V := Blk.new w1 23 #[.int .i64 3, .int .i64 (n % 1099511627776)]
    rw [World.size_alloc] at R
    have r0 := R.cell 0
    have r1 := R.cell 1
    have f0 := R.frozen 0
    have f1 := R.frozen 1
    have v0 := V.cell 0
    have v1 := V.cell 1
    have ne1 : ¬ (w.heap.size + 1 = w1.heap.size) := by
      have := hb.size
      simp only [World.size_alloc] at this
      omega
    have ne2 : ¬ (w1.heap.size = w.heap.size + 1) := fun e => ne1 e.symm
    clear hb R V oT oN eT eN
    go_wp2_with fail
    go_region
    all_goals
      go_wp2_with fail
      refine bodyPost_ret (v := .tuple #[.agg #[.int .i64 3, .int .i64 (n % 1099511627776)], .bool true]) (by simp [results, Tryd.results19, go_sem, r0, r1]) rfl ⟨rfl, ?_⟩
      exact ((H.out.setCell (by simp) _).setCell (by simp) _).drew
end Go.Proofs.YtfghigioofaidaaDoor
