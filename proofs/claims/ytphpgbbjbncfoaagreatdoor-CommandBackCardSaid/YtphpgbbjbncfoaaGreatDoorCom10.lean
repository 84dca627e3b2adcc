/-
  LAYER 42: words, and what Print returns.
-/
import Derived.Test.YtphpgbbjbncfoaaGreatDoorCom9
import Derived.Shelf.Abstract
namespace Go.Proofs.YtphpgbbjbncfoaaGreatDoor
open Go.ChangeShapes Go.WideShapes Go.ChangeAt Go.RowKit

/-- What is read behind a word, and whether it can be read. -/
def readC (cl : Nat) (s : List UInt8) : Cmd.C := match cl with
  | 1 => ⟨0, 0, [], behindSp s⟩
  | 2 => ⟨0, 0, [], unqS (behindSp s)⟩
  | 3 => ⟨0, Num.numP (cutR (behindSp s)).2.1, (cutR (behindSp s)).1, []⟩
  | 4 => ⟨0, Num.numP (behindSp s), [], []⟩
  | _ => Cmd.zero
def readB (cl : Nat) (s : List UInt8) : Bool := match cl with
  | 1 => isSp s
  | 2 => isSp s && decide (unqE (behindSp s) = 0)
  | 3 => isSp s && (cutR (behindSp s)).2.2 && decide (errP (cutR (behindSp s)).2.1 = 0)
  | 4 => isSp s && decide (errP (behindSp s) = 0)
  | _ => s.isEmpty
/-- All that is known of the form of a kind. -/
structure Fm (k cl : Nat) (W : List UInt8) (M : Int) (FV FP FR : Nat) : Prop where
  of : ∀ w, Calls Tryz.prog 38 #[.int .i64 (k : Int)] w fun e w' => e = .returned (.tuple #[.agg #[.string ⟨W.toArray⟩, .int .i64 M, .func (.func FV) #[] #[], .func (.func FP) #[] #[], .func (.func FR) #[] #[]], .bool true]) ∧ Below w.heap.size w w'
  eV : ∀ args w, (callFunc FV args).run Tryz.prog w = .ok (.enter FV args) w
  eP : ∀ args w, (callFunc FP args).run Tryz.prog w = .ok (.enter FP args) w
  eR : ∀ args w, (callFunc FR args).run Tryz.prog w = .ok (.enter FR args) w
  v : ∀ (c : Cmd.C) w, c.val.length ≤ 100000 → c.name.length ≤ 100000 → Good w → Calls Tryz.prog FV #[cV c] w fun e w' => e = .returned (.bool (Cmd.valid cl c)) ∧ Below w.heap.size w w'
  p : ∀ (c : Cmd.C) w, c.val.length ≤ 100000 → c.name.length ≤ 100000 → 0 ≤ c.a → c.a ≤ 9223372036854775807 → Good w → Calls Tryz.prog FP #[cV c] w fun e w' => e = .returned (.string ⟨(Cmd.text cl c).toArray⟩) ∧ Below w.heap.size w w'
  r : ∀ (s : List UInt8) w, s.length ≤ 100000 → Good w → Calls Tryz.prog FR #[.string ⟨s.toArray⟩] w fun e w' => e = .returned (.tuple #[cV (readC cl s), .bool (readB cl s)]) ∧ Below w.heap.size w w'
theorem cls_ways (k : Nat) : Cmd.cls k = 0 ∨ Cmd.cls k = 1 ∨ Cmd.cls k = 2 ∨ Cmd.cls k = 3 ∨ Cmd.cls k = 4 := by
  unfold Cmd.cls
  repeat' split
  all_goals simp
theorem fm (k : Nat) (h1 : 1 ≤ k) (h2 : k ≤ 15) : Fm k (Cmd.cls k) ((Cmd.words[k]?).getD []) (Cmd.most k) (fV (Cmd.cls k)) (fP (Cmd.cls k)) (fR (Cmd.cls k)) := by
  have hof := fun w => of_some k h1 h2 w
  unfold formL at hof
  rw [if_neg (by omega)] at hof
  rcases cls_ways k with e | e | e | e | e
  all_goals rw [e] at hof ⊢
  · exact ⟨hof, enters_of Tryz.func77 (by kernel_rfl) rfl, enters_of Tryz.func101 (by kernel_rfl) rfl, enters_of Tryz.func102 (by kernel_rfl) rfl,
      fun c w _ _ _ => bare_any c w, fun c w _ _ _ _ _ => nothing_any c w, fun s w _ _ => noRest_any s w⟩
  · exact ⟨hof, enters_of Tryz.func67 (by kernel_rfl) rfl, enters_of Tryz.func68 (by kernel_rfl) rfl, enters_of Tryz.func69 (by kernel_rfl) rfl,
      fun c w h _ hG => lists_any c h w hG, fun c w h _ _ _ _ => withVal_any c (by omega) w, fun s w _ _ => readVal_any s w⟩
  · exact ⟨hof, enters_of Tryz.func70 (by kernel_rfl) rfl, enters_of Tryz.func71 (by kernel_rfl) rfl, enters_of Tryz.func72 (by kernel_rfl) rfl,
      fun c w _ _ _ => texts_any c w, fun c w h _ _ _ _ => withText_any c (by omega) w, fun s w h hG => readText_any s (by omega) w hG⟩
  · exact ⟨hof, enters_of Tryz.func74 (by kernel_rfl) rfl, enters_of Tryz.func75 (by kernel_rfl) rfl, enters_of Tryz.func76 (by kernel_rfl) rfl,
      fun c w _ h hG => named_any c (by omega) w hG, fun c w _ h h0 h1 hG => withBreak_any c h0 h1 (by omega) w hG, fun s w h hG => readBreak_any s (by omega) w hG⟩
  · exact ⟨hof, enters_of Tryz.func77 (by kernel_rfl) rfl, enters_of Tryz.func78 (by kernel_rfl) rfl, enters_of Tryz.func79 (by kernel_rfl) rfl,
      fun c w _ _ _ => bare_any c w, fun c w _ _ h0 h1 hG => withA_any c h0 h1 w hG, fun s w h hG => readA_any s (by omega) w hG⟩

/-- command.Word. -/
theorem word_any (k : Int) (w : World) : Calls Tryz.prog 28 #[.int .i64 k] w fun e w' => e = .returned (.string ⟨(Cmd.word' k).toArray⟩) ∧ Below w.heap.size w w' := by
  by_cases hk : 1 ≤ k ∧ k ≤ 15
  · obtain ⟨n, rfl⟩ : ∃ n : Nat, k = n := ⟨k.toNat, by omega⟩
    have hF := fm n (by omega) (by omega)
    rw [show Cmd.word' (n : Int) = (Cmd.words[n]?).getD [] by unfold Cmd.word'; rw [if_pos (by omega)]; rfl]
    generalize (Cmd.words[n]?).getD [] = W at hF ⊢
    have H := Lib.hid hF
    clear hF
    go_enter Tryz.func28, Tryz.ntmps28
    go_wp2_with fail
    refine (H.out.of _).mono ?_
    rintro e w1 ⟨rfl, hb⟩
    have HB := Lib.hid (below_new hb (.cells #[.string ⟨W.toArray⟩, .int .i64 (Cmd.most n), .func (.func (fV (Cmd.cls n))) #[] #[], .func (.func (fP (Cmd.cls n))) #[] #[], .func (.func (fR (Cmd.cls n))) #[] #[]] 72))
    clear hb
    go_wp2_with fail
    go_ret
    exact ⟨rfl, HB.out⟩
  · have hw : Cmd.word' k = [] := by
      unfold Cmd.word'
      split
      · by_cases h0 : k = 0
        · subst h0; rfl
        · rw [List.getElem?_eq_none (by show 16 ≤ k.toNat; omega)]; rfl
      · rfl
    rw [hw]
    clear hw
    have H := fun w => of_none k (by omega) w
    have H := Lib.hid H
    go_enter Tryz.func28, Tryz.ntmps28
    go_wp2_with fail
    refine (H.out _).mono ?_
    rintro e w1 ⟨rfl, hb⟩
    have HB := Lib.hid (below_new hb (.cells (formL 0).toArray 72))
    clear hb
    rw [show (formL 0).toArray = #[.string ⟨#[]⟩, .int .i64 0, .nilFunc, .nilFunc, .nilFunc] from rfl] at HB ⊢
    go_wp2_with fail
    go_ret
    exact ⟨rfl, HB.out⟩
end Go.Proofs.YtphpgbbjbncfoaaGreatDoor
