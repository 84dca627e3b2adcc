/-
  LAYER 42: names, in the reference.
-/
import Derived.Test.YtphpgbbjbncfoaaGreatDoorCom6
namespace Go.Proofs.YtphpgbbjbncfoaaGreatDoor
open Go.ChangeShapes Go.WideShapes Go.ChangeAt Go.RowKit

def dig (c : UInt8) : Bool := decide (48 ≤ c.toNat ∧ c.toNat ≤ 57)
theorem rletter_any (c : UInt8) (w : World) : Calls Tryz.prog 83 #[.int .u8 (c.toNat : Int)] w fun e w' => e = .returned (.bool (Cmd.letr c)) ∧ w = w' := by
  obtain ⟨b, hb⟩ : ∃ b, Cmd.letr c = b := ⟨_, rfl⟩
  rw [hb]
  have H := Lib.hid hb
  clear hb
  rcases (show c.toNat < 65 ∨ (65 ≤ c.toNat ∧ c.toNat ≤ 90) ∨ (90 < c.toNat ∧ c.toNat < 97) ∨ (97 ≤ c.toNat ∧ c.toNat ≤ 122) ∨ 122 < c.toNat by omega) with h1 | ⟨h1, h2⟩ | ⟨h1, h2⟩ | ⟨h1, h2⟩ | h1
  all_goals go_enter Tryz.func83, Tryz.ntmps83
  all_goals go_wp2
  all_goals go_ret
  all_goals exact ⟨ret_bool (by rw [← H.out]; unfold Cmd.letr; rw [Bool.eq_iff_iff]; simp; omega), rfl⟩
theorem rdigit_any (c : UInt8) (w : World) : Calls Tryz.prog 84 #[.int .u8 (c.toNat : Int)] w fun e w' => e = .returned (.bool (dig c)) ∧ w = w' := by
  obtain ⟨b, hb⟩ : ∃ b, dig c = b := ⟨_, rfl⟩
  rw [hb]
  have H := Lib.hid hb
  clear hb
  rcases (show c.toNat < 48 ∨ (48 ≤ c.toNat ∧ c.toNat ≤ 57) ∨ 57 < c.toNat by omega) with h1 | ⟨h1, h2⟩ | h1
  all_goals go_enter Tryz.func84, Tryz.ntmps84
  all_goals go_wp2
  all_goals go_ret
  all_goals exact ⟨ret_bool (by rw [← H.out]; unfold dig; rw [Bool.eq_iff_iff]; simp; omega), rfl⟩
theorem rkeywords_any (w : World) :
    Calls Tryz.prog 85 #[] w fun e w' => e = .returned (.slice (some ⟨w.heap.size, 0, none⟩) 15 15) ∧ w' = w.alloc (.cells (Cmd.keywords.map fun l => Value.string ⟨l.toArray⟩).toArray 9) := by
  go_enter Tryz.func85, Tryz.ntmps85
  go_wp2_with fail
  go_ret
  exact ⟨rfl, rfl⟩
theorem word_ways (c : UInt8) : (Cmd.letr c = true ∧ Cmd.word c = true) ∨ (Cmd.letr c = false ∧ dig c = true ∧ Cmd.word c = true) ∨ (Cmd.letr c = false ∧ dig c = false ∧ c = 95 ∧ Cmd.word c = true) ∨ (Cmd.letr c = false ∧ dig c = false ∧ c ≠ 95 ∧ Cmd.word c = false) := by
  have key : ∀ n : Fin 256, (Cmd.letr (UInt8.ofNat n.val) = true ∧ Cmd.word (UInt8.ofNat n.val) = true) ∨ (Cmd.letr (UInt8.ofNat n.val) = false ∧ dig (UInt8.ofNat n.val) = true ∧ Cmd.word (UInt8.ofNat n.val) = true) ∨ (Cmd.letr (UInt8.ofNat n.val) = false ∧ dig (UInt8.ofNat n.val) = false ∧ (UInt8.ofNat n.val) = 95 ∧ Cmd.word (UInt8.ofNat n.val) = true) ∨ (Cmd.letr (UInt8.ofNat n.val) = false ∧ dig (UInt8.ofNat n.val) = false ∧ (UInt8.ofNat n.val) ≠ 95 ∧ Cmd.word (UInt8.ofNat n.val) = false) := by decide +kernel
  have := key ⟨c.toNat, c.toNat_lt⟩
  rwa [UInt8.ofNat_toNat] at this
theorem byte_ne' {c d : UInt8} (h : c ≠ d) : ((c.toNat : Int) == (d.toNat : Int)) = false := by
  simp
  intro e
  exact h (UInt8.toNat_inj.1 (by omega))

set_option maxHeartbeats 4000000 in
set_option maxRecDepth 100000 in
/-- The reference's Name: the same. -/
theorem rname_any (l : List UInt8) (hl : l.length ≤ 1000000) (w : World) :
    Calls Tryz.prog 51 #[.string ⟨l.toArray⟩] w fun e w' => e = .returned (.bool (Cmd.nameB l)) ∧ Below w.heap.size w w' := by
  obtain ⟨D, hD⟩ : ∃ D, Cmd.nameB l = D := ⟨_, rfl⟩
  rw [hD]
  by_cases h0 : l = []
  · have HF : Hid (D = false) := Lib.hid (by rw [← hD]; exact nameB_no fun h => h.1 h0)
    have e0 : (l.length : Int) < 1 := by rw [h0]; simp
    clear hD h0
    go_enter Tryz.func51, Tryz.ntmps51
    go_wp2_with fail
    go_ret
    exact ⟨by rw [HF.out]; rfl, Below.refl _ _⟩
  have hp : 0 < l.length := List.length_pos_iff.2 h0
  have e0 : ¬ (l.length : Int) < 1 := by omega
  by_cases h1 : 16 < l.length
  · have HF : Hid (D = false) := Lib.hid (by rw [← hD]; exact nameB_no fun h => by have := h.2.1; omega)
    have e1 : (16 : Int) < (l.length : Int) := by omega
    clear hD h0
    go_enter Tryz.func51, Tryz.ntmps51
    go_wp2_with fail
    go_ret
    exact ⟨by rw [HF.out]; rfl, Below.refl _ _⟩
  have e1 : ¬ (16 : Int) < (l.length : Int) := by omega
  obtain ⟨c, hc⟩ : ∃ c, l[0]? = some c := ⟨_, List.getElem?_eq_getElem hp⟩
  have hx : ∀ h, ((⟨l.toArray⟩ : ByteArray)[0]'h) = c := fun h => (List.getElem?_eq_some_iff.1 hc).2
  have HH : Hid (l.head? = some c) := Lib.hid (by rw [List.head?_eq_getElem?]; exact hc)
  have HD := Lib.hid hD
  have H0 := Lib.hid h0
  have H1 := Lib.hid h1
  clear hc hD h0 h1
  cases hlr : Cmd.letr c with
  | false =>
    have HF : Hid (D = false) := Lib.hid (by rw [← HD.out]; exact nameB_no fun h => by have := h.2.2.1 c HH.out; rw [hlr] at this; cases this)
    have HR := Lib.hid hlr
    clear hlr
    go_enter Tryz.func51, Tryz.ntmps51
    go_wp2_with fail
    refine (rletter_any c _).mono ?_
    rintro e w2 ⟨rfl, rfl⟩
    rw [HR.out]
    go_wp2_with fail
    go_ret
    exact ⟨by rw [HF.out]; rfl, Below.refl _ _⟩
  | true =>
    have HR := Lib.hid hlr
    clear hlr
    go_enter Tryz.func51, Tryz.ntmps51
    go_wp2_with fail
    refine (rletter_any c _).mono ?_
    rintro e w2 ⟨rfl, rfl⟩
    rw [HR.out]
    go_wp2_with fail
    clear hx
    go_loop [3] (fun i => ∃ k : Nat, k ≤ l.length ∧ i = .int .i64 k ∧ Hid (∀ c ∈ l.take k, Cmd.word c = true)) (fun i => l.length - (intOf i).toNat)
    case atStart => exact ⟨0, Nat.zero_le _, rfl, Lib.hid (by simp)⟩
    case round =>
      obtain ⟨k, hk, rfl, HW⟩ := hrel
      by_cases hlt : k < l.length
      · obtain ⟨d, hd⟩ : ∃ d, l[k]? = some d := ⟨_, List.getElem?_eq_getElem hlt⟩
        have hx : ∀ h, ((⟨l.toArray⟩ : ByteArray)[k]'h) = d := fun h => (List.getElem?_eq_some_iff.1 hd).2
        have HK := Lib.hid hd
        clear hd
        have hnext : Cmd.word d = true → Hid (∀ c ∈ l.take (k + 1), Cmd.word c = true) := fun hw => Lib.hid (by
          rw [take_snoc HK.out]
          intro x hx
          rcases List.mem_append.1 hx with hx | hx
          · exact HW.out x hx
          · rw [List.mem_singleton.1 hx]; exact hw)
        rcases word_ways d with ⟨q1, q2⟩ | ⟨q1, q2, q3⟩ | ⟨q1, q2, q3, q4⟩ | ⟨q1, q2, q3, q4⟩
        · have HN := hnext q2
          have HQ := Lib.hid q1
          clear hnext q1 q2
          go_wp2_with fail
          refine (rletter_any d _).mono ?_
          rintro e w2 ⟨rfl, rfl⟩
          rw [HQ.out]
          go_wp2_with fail
          go_round
          case rel => exact ⟨k + 1, by omega, by go_num, HN⟩
          case measure => simp [intOf]; omega
        · have HN := hnext q3
          have HQ := Lib.hid q1
          have HQ2 := Lib.hid q2
          clear hnext q1 q2 q3
          go_wp2_with fail
          refine (rletter_any d _).mono ?_
          rintro e w2 ⟨rfl, rfl⟩
          rw [HQ.out]
          go_wp2_with fail
          refine (rdigit_any d _).mono ?_
          rintro e w2 ⟨rfl, rfl⟩
          rw [HQ2.out]
          go_wp2_with fail
          go_round
          case rel => exact ⟨k + 1, by omega, by go_num, HN⟩
          case measure => simp [intOf]; omega
        · have HN := hnext q4
          have HQ := Lib.hid q1
          have HQ2 := Lib.hid q2
          subst q3
          clear hnext q1 q2 q4
          go_wp2_with fail
          refine (rletter_any 95 _).mono ?_
          rintro e w2 ⟨rfl, rfl⟩
          rw [HQ.out]
          go_wp2_with fail
          refine (rdigit_any 95 _).mono ?_
          rintro e w2 ⟨rfl, rfl⟩
          rw [HQ2.out]
          go_wp2_with fail
          go_round
          case rel => exact ⟨k + 1, by omega, by go_num, HN⟩
          case measure => simp [intOf]; omega
        · have HF : Hid (D = false) := Lib.hid (by rw [← HD.out]; exact nameB_no fun h => by have := h.2.2.2.1 d (List.mem_of_getElem? HK.out); rw [q4] at this; cases this)
          have HQ := Lib.hid q1
          have HQ2 := Lib.hid q2
          have k1 : ((d.toNat : Int) == 95) = false := byte_ne' (d := 95) q3
          have k2 : ¬ (d.toNat : Int) = 95 := by simpa using k1
          clear hnext q1 q2 q3 q4
          go_wp2_with fail
          refine (rletter_any d _).mono ?_
          rintro e w2 ⟨rfl, rfl⟩
          rw [HQ.out]
          go_wp2_with fail
          refine (rdigit_any d _).mono ?_
          rintro e w2 ⟨rfl, rfl⟩
          rw [HQ2.out]
          go_wp2_with fail
          go_ret
          exact ⟨by rw [HF.out]; rfl, Below.refl _ _⟩
      · obtain rfl : k = l.length := by omega
        rw [List.take_length] at HW
        go_wp2_with fail
        refine (rkeywords_any _).mono ?_
        rintro e w2 ⟨rfl, hw2⟩
        have HB : Hid (Below w.heap.size w w2) := Lib.hid (by rw [hw2]; exact below_new (Below.refl _ _) _)
        have HC : Hid (∀ j s, Cmd.keywords[j]? = some s → w2.cell? ⟨w.heap.size, j, none⟩ = some (.string ⟨s.toArray⟩)) := Lib.hid fun j s hs => by
          have := news_all w 9 (Cmd.keywords.map fun l => Value.string ⟨l.toArray⟩) j (.string ⟨s.toArray⟩) (by simp [hs])
          rw [hw2, show (⟨w.heap.size, j, none⟩ : Addr) = (⟨w.heap.size, 0, none⟩ : Addr).add j by simp [Addr.add]]
          exact this
        clear hw2
        go_wp2_with fail
        go_loop [5] (fun i => ∃ k : Nat, k ≤ 15 ∧ i = .int .i64 k ∧ Hid (∀ s ∈ Cmd.keywords.take k, s ≠ l)) (fun i => 15 - (intOf i).toNat)
        case atStart => exact ⟨0, Nat.zero_le _, rfl, Lib.hid (by simp)⟩
        case round =>
          obtain ⟨k, hk, rfl, HS⟩ := hrel
          by_cases hlt : k < 15
          · obtain ⟨s, hs⟩ : ∃ s, Cmd.keywords[k]? = some s := ⟨_, List.getElem?_eq_getElem (show k < Cmd.keywords.length from hlt)⟩
            have hcell := HC.out k s hs
            by_cases hsl : s = l
            · have HF : Hid (D = false) := Lib.hid (by rw [← HD.out]; exact nameB_no fun h => h.2.2.2.2 (by rw [← hsl]; exact List.mem_of_getElem? hs))
              have h7 : (s == l) = true := by simpa using hsl
              rw [hsl] at hcell
              clear hs hsl h7
              go_wp2_with fail
              go_ret
              exact ⟨by rw [HF.out]; rfl, HB.out⟩
            · have h7 : (s == l) = false := by simpa using hsl
              have HN : Hid (∀ s ∈ Cmd.keywords.take (k + 1), s ≠ l) := Lib.hid (by
                rw [take_snoc hs]
                intro x hx
                rcases List.mem_append.1 hx with hx | hx
                · exact HS.out x hx
                · rw [List.mem_singleton.1 hx]; exact hsl)
              clear hs hsl
              go_wp2_with fail
              go_round
              case rel => exact ⟨k + 1, by omega, by go_num, HN⟩
              case measure => simp [intOf]; omega
          · obtain rfl : k = 15 := by omega
            have HF : Hid (D = true) := Lib.hid (by
              rw [← HD.out]
              exact nameB_yes ⟨H0.out, by have := H1.out; omega, fun d hd => by rw [HH.out] at hd; cases hd; exact HR.out, HW.out, fun hm => HS.out l hm rfl⟩)
            rw [show ((15 : Nat) : Int) = 15 from rfl]
            go_wp2_with fail
            go_ret
            exact ⟨by rw [HF.out]; rfl, HB.out⟩
end Go.Proofs.YtphpgbbjbncfoaaGreatDoor
