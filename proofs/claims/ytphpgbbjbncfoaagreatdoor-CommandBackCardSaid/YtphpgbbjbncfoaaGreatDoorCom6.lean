/-
  LAYER 42: names, in the program.
-/
import Derived.Test.YtphpgbbjbncfoaaGreatDoorCom1
import Derived.Shelf.Strings.SlTrimAscii
namespace Go.Proofs.YtphpgbbjbncfoaaGreatDoor
open Go.ChangeShapes Go.WideShapes Go.ChangeAt Go.RowKit

def letters : List UInt8 := [65, 66, 67, 68, 69, 70, 71, 72, 73, 74, 75, 76, 77, 78, 79, 80, 81, 82, 83, 84, 85, 86, 87, 88, 89, 90, 97, 98, 99, 100, 101, 102, 103, 104, 105, 106, 107, 108, 109, 110, 111, 112, 113, 114, 115, 116, 117, 118, 119, 120, 121, 122]
def later : List UInt8 := letters ++ [48, 49, 50, 51, 52, 53, 54, 55, 56, 57, 95]
theorem index_letr (c : UInt8) : (Cmd.letr c = true → 0 ≤ Lib.indexByte letters c) ∧ (Cmd.letr c = false → Lib.indexByte letters c < 0) := by
  have key : ∀ n : Fin 256, (Cmd.letr (UInt8.ofNat n.val) = true → 0 ≤ Lib.indexByte letters (UInt8.ofNat n.val)) ∧ (Cmd.letr (UInt8.ofNat n.val) = false → Lib.indexByte letters (UInt8.ofNat n.val) < 0) := by decide +kernel
  have := key ⟨c.toNat, c.toNat_lt⟩
  rwa [UInt8.ofNat_toNat] at this
theorem later_word (c : UInt8) : later.contains c = Cmd.word c := by
  have key : ∀ n : Fin 256, later.contains (UInt8.ofNat n.val) = Cmd.word (UInt8.ofNat n.val) := by decide +kernel
  have := key ⟨c.toNat, c.toNat_lt⟩
  rwa [UInt8.ofNat_toNat] at this
theorem drop_nil (p : UInt8 → Bool) : ∀ l : List UInt8, l.dropWhile p = [] ↔ ∀ x ∈ l, p x = true
  | [] => by simp
  | a :: l => by
    rw [List.dropWhile_cons]
    cases ha : p a with
    | true => simp [ha, drop_nil p l]
    | false => simp [ha]
theorem drop_head (p : UInt8 → Bool) : ∀ (l : List UInt8) (a : UInt8) (r : List UInt8), l.dropWhile p = a :: r → p a = false
  | [], _, _, h => by cases h
  | b :: l, a, r, h => by
    rw [List.dropWhile_cons] at h
    cases hb : p b with
    | true => rw [hb] at h; exact drop_head p l a r h
    | false => rw [hb] at h; cases h; exact hb
theorem trim_nil (l : List UInt8) : Lib.trimS l later = [] ↔ ∀ c ∈ l, Cmd.word c = true := by
  unfold Lib.trimS Lib.trimLeftS Lib.trimRightS
  rw [drop_nil]
  constructor
  · intro h
    cases he : l.reverse.dropWhile (later.contains ·) with
    | nil =>
      rw [drop_nil] at he
      intro c hc
      rw [← later_word]
      exact he c (List.mem_reverse.2 hc)
    | cons a r =>
      have h1 := h a (by rw [he]; simp)
      have h2 := drop_head _ _ _ _ he
      rw [h1] at h2
      cases h2
  · intro h c hc
    rw [later_word]
    have h3 := List.mem_reverse.1 hc
    have h4 := List.dropWhile_sublist (p := fun x => later.contains x) (l := l.reverse)
    exact h c (List.mem_reverse.1 (h4.subset h3))
theorem nameB_yes {l : List UInt8} (h : l ≠ [] ∧ l.length ≤ 16 ∧ (∀ c, l.head? = some c → Cmd.letr c = true) ∧ (∀ c ∈ l, Cmd.word c = true) ∧ l ∉ Cmd.keywords) : Cmd.nameB l = true := decide_eq_true h
theorem nameB_no {l : List UInt8} (h : ¬ (l ≠ [] ∧ l.length ≤ 16 ∧ (∀ c, l.head? = some c → Cmd.letr c = true) ∧ (∀ c ∈ l, Cmd.word c = true) ∧ l ∉ Cmd.keywords)) : Cmd.nameB l = false := decide_eq_false h

def kwText : List UInt8 := [102, 117, 110, 99, 32, 118, 97, 114, 32, 105, 102, 32, 101, 108, 115, 101, 32, 119, 104, 105, 108, 101, 32, 114, 101, 116, 117, 114, 110, 32, 112, 114, 105, 110, 116, 32, 114, 101, 97, 100, 32, 110, 101, 119, 32, 108, 101, 110, 32, 105, 110, 116, 32, 98, 111, 111, 108, 32, 97, 114, 114, 97, 121, 32, 116, 114, 117, 101, 32, 102, 97, 108, 115, 101]
theorem kw_fields : Lib.fields kwText = Cmd.keywords := by decide +kernel
theorem keywords_any (w : World) (hG : Good w) :
    Calls Tryz.prog 43 #[] w fun e w' => e = .returned (.slice (some ⟨w.heap.size, 0, none⟩) 15 15) ∧ w' = w.alloc (.cells (Cmd.keywords.map fun l => Value.string ⟨l.toArray⟩).toArray 9) := by
  have h := Tryz.strings_Fields_laid ⟨kwText.toArray⟩ w (by decide) (Go.Proofs.ascii_of_all (by decide)) hG.sp
  rw [show (⟨kwText.toArray⟩ : ByteArray).data.toList = kwText from rfl, kw_fields] at h
  have H := Lib.hid h
  clear h
  go_enter Tryz.func43, Tryz.ntmps43
  go_wp2_with fail
  refine H.out.mono ?_
  rintro e w2 ⟨rfl, rfl⟩
  go_wp2_with fail
  go_ret
  exact ⟨rfl, rfl⟩

set_option maxHeartbeats 1000000 in
/-- shape.Name. -/
theorem name_any (l : List UInt8) (hl : l.length ≤ 1000000) (w : World) (hG : Good w) :
    Calls Tryz.prog 19 #[.string ⟨l.toArray⟩] w fun e w' => e = .returned (.bool (Cmd.nameB l)) ∧ Below w.heap.size w w' := by
  obtain ⟨D, hD⟩ : ∃ D, Cmd.nameB l = D := ⟨_, rfl⟩
  rw [hD]
  by_cases h0 : l = []
  · have HF : Hid (D = false) := Lib.hid (by rw [← hD]; exact nameB_no fun h => h.1 h0)
    have e0 : l.isEmpty = true := by rw [h0]; rfl
    clear hD h0
    go_enter Tryz.func19, Tryz.ntmps19
    go_wp2_with fail
    go_ret
    exact ⟨by rw [HF.out]; rfl, Below.refl _ _⟩
  have e0 : l.isEmpty = false := by cases l with
    | nil => exact absurd rfl h0
    | cons a r => rfl
  by_cases h1 : 16 < l.length
  · have HF : Hid (D = false) := Lib.hid (by rw [← hD]; exact nameB_no fun h => by have := h.2.1; omega)
    have e1 : ¬ (l.length : Int) ≤ 16 := by omega
    clear hD h0
    go_enter Tryz.func19, Tryz.ntmps19
    go_wp2_with fail
    go_ret
    exact ⟨by rw [HF.out]; rfl, Below.refl _ _⟩
  have e1 : (l.length : Int) ≤ 16 := by omega
  have hp : 0 < l.length := List.length_pos_iff.2 h0
  obtain ⟨c, hc⟩ : ∃ c, l[0]? = some c := ⟨_, List.getElem?_eq_getElem hp⟩
  have hx : ∀ h, ((⟨l.toArray⟩ : ByteArray)[0]'h) = c := fun h => (List.getElem?_eq_some_iff.1 hc).2
  have hhead : l.head? = some c := by rw [List.head?_eq_getElem?]; exact hc
  obtain ⟨X, hX⟩ : ∃ X, Lib.indexByte letters c = X := ⟨_, rfl⟩
  have hIx := fun w => Tryz.strings_IndexByte ⟨letters.toArray⟩ (c.toNat : Int) w
  rw [show ((c.toNat : Int).toNat.toUInt8) = c by simp, show (⟨letters.toArray⟩ : ByteArray).data.toList = letters from rfl, hX] at hIx
  have hL := index_letr c
  rw [hX] at hL
  have HX := Lib.hid hIx
  have HH := Lib.hid hhead
  have HD := Lib.hid hD
  have HG := Lib.hid hG
  have H0 := Lib.hid h0
  clear hIx hc hhead hD hG h0 hX
  cases hlr : Cmd.letr c with
  | false =>
    have hneg := hL.2 hlr
    have e2 : ¬ (0 : Int) ≤ X := by omega
    have HF : Hid (D = false) := Lib.hid (by rw [← HD.out]; exact nameB_no fun h => by have := h.2.2.1 c HH.out; rw [hlr] at this; cases this)
    clear hL hneg
    go_enter Tryz.func19, Tryz.ntmps19
    go_wp2_with fail
    refine (HX.out _).mono ?_
    rintro e w2 ⟨rfl, rfl⟩
    go_wp2_with fail
    go_ret
    exact ⟨by rw [HF.out]; rfl, Below.refl _ _⟩
  | true =>
    have e2 : (0 : Int) ≤ X := hL.1 hlr
    clear hL
    obtain ⟨T, hT⟩ : ∃ T, Lib.trimS l later = T := ⟨_, rfl⟩
    have hTr := fun w => Any.strings_Trim_laid Tryz.lays160 (by kernel_rfl) ⟨l.toArray⟩ ⟨later.toArray⟩ w (by rw [mk_size]; omega) (by decide) (Go.Proofs.ascii_of_all (by decide))
    rw [show (⟨l.toArray⟩ : ByteArray).data.toList = l from rfl, show (⟨later.toArray⟩ : ByteArray).data.toList = later from rfl, hT] at hTr
    have HTr := Lib.hid hTr
    have HT := Lib.hid hT
    clear hTr hT
    cases hTe : T.isEmpty with
    | false =>
      have HF : Hid (D = false) := Lib.hid (by
        rw [← HD.out]
        refine nameB_no fun h => ?_
        have := (trim_nil l).2 h.2.2.2.1
        rw [HT.out] at this
        rw [this] at hTe
        cases hTe)
      go_enter Tryz.func19, Tryz.ntmps19
      go_wp2_with fail
      refine (HX.out _).mono ?_
      rintro e w2 ⟨rfl, rfl⟩
      go_wp2_with fail
      refine (HTr.out _).mono ?_
      rintro e w2 ⟨rfl, hb⟩
      have HB := Lib.hid hb
      clear hb
      go_wp2_with fail
      go_ret
      exact ⟨by rw [HF.out]; rfl, HB.out⟩
    | true =>
      have hw : ∀ c ∈ l, Cmd.word c = true := (trim_nil l).1 (by rw [HT.out]; cases T with
        | nil => rfl
        | cons a r => cases hTe)
      have HF : Hid (D = !Lib.containsS ((Cmd.keywords.map fun l => (⟨l.toArray⟩ : ByteArray)).take 15) ⟨l.toArray⟩) := Lib.hid (by
        rw [← HD.out]
        have hm : Lib.containsS ((Cmd.keywords.map fun l => (⟨l.toArray⟩ : ByteArray)).take 15) ⟨l.toArray⟩ = true ↔ l ∈ Cmd.keywords := by
          rw [Lib.containsS_iff, List.take_of_length_le (by decide), List.mem_map]
          constructor
          · rintro ⟨x, hx, e⟩
            rwa [← mk_inj.1 e]
          · exact fun h => ⟨l, h, rfl⟩
        by_cases hk : l ∈ Cmd.keywords
        · rw [hm.2 hk]
          exact nameB_no fun h => h.2.2.2.2 hk
        · rw [show Lib.containsS ((Cmd.keywords.map fun l => (⟨l.toArray⟩ : ByteArray)).take 15) ⟨l.toArray⟩ = false by
            rw [← Bool.not_eq_true, hm]; exact hk]
          exact nameB_yes ⟨H0.out, by omega, fun d hd => by rw [HH.out] at hd; cases hd; exact hlr, hw, hk⟩)
      have HW := Lib.hid hw
      clear hw
      go_enter Tryz.func19, Tryz.ntmps19
      go_wp2_with fail
      refine (HX.out _).mono ?_
      rintro e w2 ⟨rfl, rfl⟩
      go_wp2_with fail
      refine (HTr.out _).mono ?_
      rintro e w2 ⟨rfl, hb⟩
      have HB := Lib.hid hb
      have HG2 := Lib.hid (HG.out.call hb)
      clear hb
      go_wp2_with fail
      refine (keywords_any _ HG2.out).mono ?_
      rintro e w3 ⟨rfl, rfl⟩
      have HB3 := Lib.hid (below_new HB.out (.cells (Cmd.keywords.map fun l => Value.string ⟨l.toArray⟩).toArray 9))
      go_wp2_with fail
      refine (Tryz.slices_Contains_string w2.heap.size 0 15 15 (Cmd.keywords.map fun l => (⟨l.toArray⟩ : ByteArray)) ⟨l.toArray⟩ _ (by decide) (by decide) (fun j hj => ?_)).mono ?_
      · have hn := news_all w2 9 (Cmd.keywords.map fun l => Value.string ⟨l.toArray⟩) j
        rw [List.length_map] at hj
        have := hn (.string ⟨(Cmd.keywords[j]).toArray⟩) (by simp [hj])
        rw [show (⟨w2.heap.size, 0 + j, none⟩ : Addr) = (⟨w2.heap.size, 0, none⟩ : Addr).add j by simp [Addr.add], this]
        simp [List.getD, hj]
      rintro e w4 ⟨rfl, rfl⟩
      rw [← show (!D) = Lib.containsS ((Cmd.keywords.map fun l => (⟨l.toArray⟩ : ByteArray)).take 15) ⟨l.toArray⟩ by rw [HF.out]; simp]
      go_wp2_with fail
      go_ret
      exact ⟨by simp, HB3.out⟩
end Go.Proofs.YtphpgbbjbncfoaaGreatDoor
