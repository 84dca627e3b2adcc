/-
  PLAIN LAWS OF LAYER 1: what is no string of a place; comparisons.
-/
import Derived.Test.YtmoeglecdojhcaaDoorPlQ
import Derived.Lib.Small
import Derived.Lib.Replace
namespace Go.Proofs.YtmoeglecdojhcaaDoor.Pl
open Go.Lib Go.Proofs.YtmoeglecdojhcaaDoor.Dec Go.Proofs.YtmoeglecdojhcaaDoor.Lin

theorem itoa_head {l : Int} (h : 1 ≤ l) : ∃ x r, itoa l = x :: r ∧ 49 ≤ x.toNat ∧ x.toNat ≤ 57 := by
  rw [itoa_nn (by omega)]
  exact dec_head _ (by omega)
theorem more_digit {l c : Int} (h : 1 ≤ c) {d : UInt8} (hd : isDig d) : text l c ++ [d] = text l (10 * c + ((d.toNat : Int) - 48)) := by
  unfold isDig at hd
  unfold text
  rw [List.append_assoc, List.cons_append]
  congr 2
  rw [itoa_nn (by omega), itoa_nn (by omega), dec_big (u := (10 * c + ((d.toNat : Int) - 48)).toNat) (by omega)]
  rw [show (10 * c + ((d.toNat : Int) - 48)).toNat / 10 = c.toNat by omega, show 48 + (10 * c + ((d.toNat : Int) - 48)).toNat % 10 = 48 + (d.toNat - 48) by omega]
  congr 1
  rw [byte_eq (c := d) (d := d.toNat - 48) (by omega) (by omega)]
theorem read_more {l c : Int} (h : okP l c) {d : UInt8} (hd : isDig d) (hc : 10 * c + ((d.toNat : Int) - 48) ≤ 9223372036854775807) : pread (text l c ++ [d]) = some (l, 10 * c + ((d.toNat : Int) - 48)) := by
  have h2 := hd
  unfold isDig at h2
  obtain ⟨h3, h4, h5, h6⟩ := h
  exact pread_iff.2 ⟨⟨h3, h4, by omega, hc⟩, (more_digit h5 hd).symm⟩
theorem text_last {l c : Int} {u : List UInt8} {b : UInt8} (h : text l c = u ++ [b]) (hc : 1 ≤ c) : isDig b := by
  have h1 := congrArg List.getLast? h
  unfold text at h1
  have hne : itoa c ≠ [] := itoa_ne c
  rw [List.getLast?_append, List.getLast?_append] at h1
  obtain ⟨y, hy⟩ : ∃ y, (itoa c).getLast? = some y := by
    cases e : (itoa c).getLast? with
    | none => exact absurd (List.getLast?_eq_none_iff.1 e) hne
    | some y => exact ⟨y, rfl⟩
  have h2 : (58 :: itoa c).getLast? = some y := by rw [List.getLast?_cons, hy]; rfl
  rw [h2] at h1
  have h3 : y = b := by simpa using h1
  have hm := List.mem_of_getLast? hy
  rw [itoa_nn (by omega)] at hm
  rw [← h3]
  exact dec_dig _ y hm
theorem read_wrong {l c : Int} {d : UInt8} (hd : ¬ isDig d) : pread (text l c ++ [d]) = none :=
  pread_none fun _ _ ho e => hd (text_last e ho.2.2.1)
theorem read_head {b : UInt8} {r : List UInt8} (h : b.toNat < 49 ∨ 57 < b.toNat) : pread (b :: r) = none :=
  pread_none fun _ _ ho e => by
    obtain ⟨x, q, hx, h1, h2⟩ := itoa_head ho.1
    unfold text at e
    rw [hx, List.cons_append] at e
    injection e with e _
    subst e
    omega
theorem cut_back (s : List UInt8) {l c : Int} (e : text l c = s) : (cut s).1 = itoa l ∧ (cut s).2.1 = itoa c ∧ (cut s).2.2 = true := by rw [← e, cut_text]; exact ⟨rfl, rfl, rfl⟩
theorem read_nocolon {s : List UInt8} (h : ∀ x ∈ s, x ≠ 58) : pread s = none :=
  pread_none fun l c _ e => by
    have := (cut_back s e).2.2
    rw [cut_none s h] at this
    cases this
theorem read_behind {a r : List UInt8} (ha : ∀ x ∈ a, x ≠ 58) (h : 58 ∈ r ∨ ∃ x q, r = x :: q ∧ (x.toNat < 49 ∨ 57 < x.toNat)) : pread (a ++ 58 :: r) = none :=
  pread_none fun l c ho e => by
    have h1 := (cut_back _ e).2.1
    rw [cut_colon a r ha] at h1
    rcases h with h | ⟨x, q, hr, hx⟩
    · exact itoa_colon c 58 (by rw [← h1]; exact h) rfl
    · obtain ⟨y, q', hy, h2, h3⟩ := itoa_head ho.2.2.1
      rw [hr, hy] at h1
      injection h1 with h1 _
      subst h1
      omega
/-- Eight strings beside a place's. -/
def bads (l c : Int) : List (List UInt8) :=
  [48 :: text l c, 43 :: text l c, 32 :: text l c, text l c ++ [58, 49], 58 :: text l c, itoa l ++ itoa c, itoa l ++ 58 :: 48 :: itoa c, itoa l ++ 59 :: itoa c]
theorem bads_none {l c : Int} : ∀ x ∈ bads l c, pread x = none := by
  intro x hx
  unfold bads at hx
  simp only [List.mem_cons, List.not_mem_nil, or_false] at hx
  rcases hx with rfl | rfl | rfl | rfl | rfl | rfl | rfl | rfl
  · exact read_head (by decide)
  · exact read_head (by decide)
  · exact read_head (by decide)
  · rw [show text l c ++ [58, 49] = itoa l ++ 58 :: (itoa c ++ [58, 49]) by unfold text; simp]
    exact read_behind (itoa_colon l) (.inl (by simp))
  · exact read_head (by decide)
  · exact read_nocolon fun x hx => by
      rcases List.mem_append.1 hx with h | h
      · exact itoa_colon l x h
      · exact itoa_colon c x h
  · exact read_behind (itoa_colon l) (.inr ⟨48, itoa c, rfl, by decide⟩)
  · exact read_nocolon fun x hx => by
      rcases List.mem_append.1 hx with h | h
      · exact itoa_colon l x h
      · rcases List.mem_cons.1 h with rfl | h
        · decide
        · exact itoa_colon c x h

/-- Places compared. -/
def cmpP (l c l' c' : Int) : Int := if l < l' then -1 else if l' < l then 1 else if c < c' then -1 else if c' < c then 1 else 0
theorem cmpP_of (l c l' c' : Int) : cmpP l c l' c' = if l = l' ∧ c = c' then 0 else if compareInt l l' ≠ 0 then compareInt l l' else compareInt c c' := by
  unfold cmpP compareInt
  repeat' split
  all_goals first | rfl | omega
theorem replace_colon (l c : Int) (new : List UInt8) (hn : new ≠ [58]) : Lib.replace (text l c) [58] new 1 = itoa l ++ (new ++ itoa c) := by
  have hi : index (text l c) [58] = ((itoa l).length : Int) := by
    unfold text
    have key : ∀ (p r : List UInt8), (∀ x ∈ p, x ≠ 58) → index (p ++ 58 :: r) [58] = (p.length : Int) := fun p => by
      induction p with
      | nil => intro r _; rw [List.nil_append, index, if_pos (by simp [List.isPrefixOf])]; rfl
      | cons x p ih =>
        intro r h
        have ih := ih r fun y hy => h y (by simp [hy])
        rw [List.cons_append, index, if_neg (by simp [List.isPrefixOf, Ne.symm (h x (by simp))]), ih, if_neg (by simp), List.length_cons]
        omega
    exact key _ _ (itoa_colon l)
  have hc : 1 ≤ count (text l c) [58] := by
    unfold count
    rw [countFrom, if_neg (by rw [hi]; simp)]
    omega
  have hk : replaceNum (text l c) [58] 1 = 1 := by
    unfold replaceNum
    split
    · omega
    · rfl
  unfold Lib.replace
  rw [if_neg (by simpa using fun e => hn e.symm), hk, replaceK_hit _ _ _ _ _ hi, replaceK]
  unfold text
  rw [List.take_left, List.append_assoc, show (itoa l).length + [(58 : UInt8)].length = (itoa l ++ [58]).length by simp, show itoa l ++ 58 :: itoa c = (itoa l ++ [58]) ++ itoa c by simp, List.drop_left]

end Go.Proofs.YtmoeglecdojhcaaDoor.Pl
