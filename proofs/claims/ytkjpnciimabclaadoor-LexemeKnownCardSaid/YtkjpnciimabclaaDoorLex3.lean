/-
  LAYER 4: numbers; keywords; signs.
-/
import Derived.Test.YtkjpnciimabclaaDoorLex2
namespace Go.Proofs.YtkjpnciimabclaaDoor
open Go.ChangeShapes Go.WideShapes Go.ChangeAt Go.RowKit

theorem numOk_bad {d r : List UInt8} (h : ∀ v, Lib.parseIntB 64 d ≠ .ok v) : Lex.numOk d r = false := by
  unfold Lex.numOk
  split
  · rename_i v e; exact absurd e (h v)
  · rfl
theorem numOk_ok {d r : List UInt8} {v : Int} (h : Lib.parseIntB 64 d = .ok v) : Lex.numOk d r = (decide (Lib.itoa v = d) && (match r with | [] => true | c :: _ => !Lex.word c)) := by
  unfold Lex.numOk
  rw [h]
  cases r <;> rfl

/-- lexeme.number. -/
theorem number_any (d r : List UInt8) (hd : d.length ≤ 1000000) (w : World) (hG : Good w) :
    Calls Tryd.prog 37 #[.string ⟨d.toArray⟩, .string ⟨r.toArray⟩] w fun e w' => e = .returned (.bool (Lex.numOk d r)) ∧ Below w.heap.size w w' := by
  have hG' := hG
  obtain ⟨t1, p1, hes⟩ := hG.es
  obtain ⟨t2, p2, her⟩ := hG.er
  clear hG'
  obtain ⟨b, hb⟩ : ∃ b, Lex.numOk d r = b := ⟨_, rfl⟩
  rw [hb]
  have H := Lib.hid hb
  clear hb
  cases hp : Lib.parseIntB 64 d with
  | ok v =>
    have hv := Lib.parseIntB_bounds hp
    rw [numOk_ok hp] at H
    have h0 : -9223372036854775808 ≤ v := by have := hv.1; simp at this; omega
    have h1 : v ≤ 9223372036854775807 := by have := hv.2; simp at this; omega
    have HP := Lib.hid hp
    clear hp hv
    go_enter Tryd.func37, Tryd.ntmps37
    go_wp2_with fail
    refine (Tryd.strconv_ParseInt_10_at64_ok ⟨d.toArray⟩ (by show d.length ≤ _; omega) v (by simpa using HP.out) _).mono ?_
    rintro e w1 ⟨rfl, hw1⟩
    have b1 := below_bytes hw1
    have G1 := hG.call b1
    have K1 := Lib.hid b1
    clear b1 hG hw1 hes her
    go_wp2_with fail
    refine (Tryd.strconv_FormatInt_10 v h0 h1 _ G1.pow).mono ?_
    rintro e w2 ⟨rfl, k, os, rfl⟩
    have K2 := Lib.hid (below_call K1.out (below_grow (w := w1) k os))
    clear G1
    generalize Go.Sort.grow (w1.drewN k) os = w2 at K2 ⊢
    by_cases he : Lib.itoa v = d
    · have hq := str_yes he
      cases r with
      | nil =>
        go_wp2_with fail
        go_ret
        exact ⟨ret_bool (by rw [← H.out, decide_eq_true he]; rfl), K2.out⟩
      | cons c r =>
        have hx : ∀ h, ((⟨(c :: r).toArray⟩ : ByteArray)[0]'h) = c := fun h => rfl
        go_wp2_with fail
        refine (inWord_any c _).mono ?_
        rintro e w3 ⟨rfl, rfl⟩
        go_wp2_with fail
        go_ret
        exact ⟨ret_bool (by rw [← H.out, decide_eq_true he]; rfl), K2.out⟩
    · have hq := str_no he
      go_wp2_with fail
      go_ret
      exact ⟨ret_bool (by rw [← H.out, decide_eq_false he]; rfl), K2.out⟩
  | range =>
    rw [numOk_bad (fun v hv => by rw [hp] at hv; cases hv)] at H
    have HP : Hid (Lib.parseIntB 64 d = .range) := Lib.hid (hp.trans rfl)
    clear hp
    go_enter Tryd.func37, Tryd.ntmps37
    go_wp2_with fail
    refine (Tryd.strconv_ParseInt_10_at64_range_var ⟨d.toArray⟩ (by show d.length ≤ _; omega) (by simpa using HP.out) _ _ _ her).mono ?_
    rintro e w1 ⟨N, rfl, _, _, b1⟩
    have K1 := Lib.hid b1
    clear b1
    go_wp2_with fail
    go_ret
    exact ⟨ret_bool H.out, K1.out⟩
  | _ =>
    rw [numOk_bad (fun v hv => by rw [hp] at hv; cases hv)] at H
    have HP : Hid (Lib.parseIntB 64 d = Lib.parseIntB 64 []) := Lib.hid (hp.trans rfl)
    clear hp
    go_enter Tryd.func37, Tryd.ntmps37
    go_wp2_with fail
    refine (Tryd.strconv_ParseInt_10_at64_syntax_var ⟨d.toArray⟩ (by show d.length ≤ _; omega) (by simpa using HP.out) _ _ _ hes).mono ?_
    rintro e w1 ⟨N, rfl, _, _, b1⟩
    have K1 := Lib.hid b1
    clear b1
    go_wp2_with fail
    go_ret
    exact ⟨ret_bool H.out, K1.out⟩

def mk (s : List UInt8) : ByteArray := ⟨s.toArray⟩
theorem mk_getD (l : List (List UInt8)) (j : Nat) (x : List UInt8) (h : l[j]? = some x) : (l.map mk).getD j ByteArray.empty = ⟨x.toArray⟩ := by
  rw [List.getD_eq_getElem?_getD, List.getElem?_map, h]
  rfl
theorem contains_mk (l : List (List UInt8)) (x : List UInt8) : Lib.containsS ((l.map mk).take l.length) ⟨x.toArray⟩ = decide (x ∈ l) := by
  rw [Bool.eq_iff_iff, Lib.containsS_iff, decide_eq_true_iff, List.take_of_length_le (by simp)]
  constructor
  · intro h
    obtain ⟨y, hy, e⟩ := List.mem_map.1 h
    rwa [← mk_inj.1 e]
  · exact fun h => List.mem_map.2 ⟨x, h, rfl⟩

/-- lexeme.Reserved. -/
theorem reserved_any (s : List UInt8) (w : World) (hG : Good w) :
    Calls Tryd.prog 16 #[.string ⟨s.toArray⟩] w fun e w' => e = .returned (.bool (decide (s ∈ Lex.keywords))) ∧ w' = w := by
  have HG := Lib.hid hG
  clear hG
  go_enter Tryd.func16, Tryd.ntmps16
  go_wp2_with fail
  refine (Tryd.slices_Contains_string 1 0 15 15 (Lex.keywords.map mk) ⟨s.toArray⟩ _ (by decide) (by decide) ?_).mono ?_
  · intro j hj
    obtain ⟨x, hx⟩ : ∃ x, Lex.keywords[j]? = some x := ⟨_, List.getElem?_eq_getElem (by simpa using hj)⟩
    rw [mk_getD _ _ _ hx, Nat.zero_add]
    exact HG.out.kw j x hx
  rintro e w1 ⟨rfl, rfl⟩
  have hc := contains_mk Lex.keywords s
  rw [show Lex.keywords.length = 15 from rfl] at hc
  rw [hc]
  go_wp2_with fail
  go_ret
  exact ⟨rfl, rfl⟩

/-- lexeme.Signs. -/
theorem signs_any (w : World) (hG : Good w) :
    Calls Tryd.prog 14 #[] w fun e w' => ∃ v', e = .returned v' ∧ w'.ownsRow w.heap.size 9 1 v' 23 (Lex.signs.map fun s => .string ⟨s.toArray⟩) ∧ Below w.heap.size w w' := by
  have HG := Lib.hid hG
  clear hG
  go_enter Tryd.func14, Tryd.ntmps14
  go_wp2_with fail
  refine (Tryd.slices_Clone_string 0 0 23 23 (Lex.signs.map mk) _ (by decide) (by decide) ?_).mono ?_
  · intro j hj
    obtain ⟨x, hx⟩ : ∃ x, Lex.signs[j]? = some x := ⟨_, List.getElem?_eq_getElem (by simpa using hj)⟩
    rw [mk_getD _ _ _ hx, Nat.zero_add]
    exact HG.out.sg j x hx
  rintro e w1 ⟨v', rfl, h1, h2, h3⟩
  have H1 := Lib.hid h1
  have H3 := Lib.hid h3
  clear h1 h2 h3
  go_wp2_with fail
  go_ret
  refine ⟨v', rfl, ?_, H3.out⟩
  have := H1.out
  rwa [show ((Lex.signs.map mk).take 23).map Value.string = Lex.signs.map fun s => .string ⟨s.toArray⟩ from rfl] at this
end Go.Proofs.YtkjpnciimabclaaDoor
