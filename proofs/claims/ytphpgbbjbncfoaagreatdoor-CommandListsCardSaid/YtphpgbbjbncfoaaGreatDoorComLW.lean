/-
  LAYER 42: scripts are found again: the statement's walk.
-/
import Derived.Test.YtphpgbbjbncfoaaGreatDoorComSW
import Derived.Test.YtphpgbbjbncfoaaGreatDoorCom15
import Derived.Deep.CutBlock
import Derived.Deep.DeepCutAuto
namespace Go.Proofs.YtphpgbbjbncfoaaGreatDoor
open Go.ChangeShapes Go.WideShapes Go.ChangeAt Go.RowKit

/-- A text with the first j commands, and lines that are skipped. -/
def MoreT (cs : List Cmd.C) (bound : Nat) (M : List UInt8) : Prop := ∃ is, (∀ i ∈ is, GoodIt i) ∧ itCs is = cs ∧ M = itTxt is ∧ M.length ≤ bound
theorem MoreT.nil : MoreT [] 0 [] := ⟨[], by simp, rfl, rfl, Nat.le_refl _⟩
theorem MoreT.cmd {cs : List Cmd.C} {bound : Nat} {M : List UInt8} {c : Cmd.C} (h : MoreT cs bound M) (hc : Cmd.okB c = true) (hl : (ln c).length ≤ 1300) : MoreT (cs ++ [c]) (bound + 1301) (M ++ ln c ++ [10]) := by
  obtain ⟨is, h1, h2, h3, h4⟩ := h
  refine ⟨is ++ asIt [c], good_append h1 (asIt_good (by simpa using hc)), ?_, ?_, ?_⟩
  · rw [itCs_append, h2, asIt_cs]
  · rw [itTxt_append, asIt_txt, ← h3, List.append_assoc]
    simp [script]
  · simp; omega
def skipL : List (List UInt8) := [[10], [35, 32, 115, 116, 101, 112, 10], [35, 10]]
theorem MoreT.skip {cs : List Cmd.C} {bound : Nat} {M : List UInt8} {x : List UInt8} (h : MoreT cs bound M) (hx : x ∈ skipL) : MoreT cs (bound + 7) (M ++ x) := by
  obtain ⟨is, h1, h2, h3, h4⟩ := h
  have key : ∀ y ∈ skipL, ∃ p, y = p ++ [10] ∧ GoodIt (p, none) ∧ y.length ≤ 7 := by
    intro y hy
    simp only [skipL, List.mem_cons, List.not_mem_nil, or_false] at hy
    rcases hy with rfl | rfl | rfl
    · exact ⟨[], rfl, .inr ⟨rfl, by decide, by decide⟩, by decide⟩
    · exact ⟨[35, 32, 115, 116, 101, 112], rfl, .inr ⟨rfl, by decide, by decide⟩, by decide⟩
    · exact ⟨[35], rfl, .inr ⟨rfl, by decide, by decide⟩, by decide⟩
  obtain ⟨p, rfl, hg, hl⟩ := key x hx
  refine ⟨is ++ [(p, none)], good_append h1 (by simpa using hg), ?_, ?_, ?_⟩
  · rw [itCs_append, h2]
    simp [itCs]
  · rw [itTxt_append, ← h3]
    simp [itTxt]
  · rw [List.length_append]; omega
theorem MoreT.le {cs : List Cmd.C} {b b2 : Nat} {M : List UInt8} (h : MoreT cs b M) (hb : b ≤ b2) : MoreT cs b2 M := by
  obtain ⟨is, h1, h2, h3, h4⟩ := h
  exact ⟨is, h1, h2, h3, by omega⟩
theorem script_short {cs : List Cmd.C} (h : ∀ c ∈ cs, (ln c).length ≤ 1300) : (script cs).length ≤ 1301 * cs.length := by
  induction cs with
  | nil => exact Nat.le_refl _
  | cons c r ih =>
    have h1 := ih fun d hd => h d (by simp [hd])
    have h2 := h c (by simp)
    show (ln c ++ [10] ++ script r).length ≤ _
    rw [List.length_append, List.length_append, List.length_cons]
    simp
    omega
def skV : List Value := [.string ⟨#[10]⟩, .string ⟨#[35, 32, 115, 116, 101, 112, 10]⟩, .string ⟨#[35, 10]⟩]

set_option maxHeartbeats 16000000 in
set_option maxRecDepth 20000 in
theorem lists_some (A : Option Addr) (cap : Nat) (l : List Nb) (hl : l.length ≤ 40) (B : Option Addr) (cap2 : Nat) (sk : List UInt8) (hsk : sk.length ≤ 20) (w : World) (hg : ∀ x ∈ l, Nb.Ok w x) (hrd : Rd w w.heap.size A (l.flatMap cellsNb)) (hrd2 : Rd w w.heap.size B (bytesV sk)) (hG : Good w) :
    Calls Tryz.prog 12 #[.slice A l.length cap, .slice B sk.length cap2] w fun e w' => e = .returned (.bool true) ∧ Below w.heap.size w w' := by
  obtain ⟨i0, hi, hz0, hz1, hz2⟩ := info_parts info_cmd
  have HI : Hid (FInv w w) := Lib.hid ⟨hG, Below.refl _ _⟩
  have HR := Lib.hid hrd
  have HR2 := Lib.hid hrd2
  have HGo := Lib.hid hg
  have HG := Lib.hid hG
  clear hG hrd hg hrd2
  have hl1 : ¬ (40 : Int) < (l.length : Int) := by omega
  have hl2 : ¬ (20 : Int) < (sk.length : Int) := by omega
  have hcl : (l.map nbC).length = l.length := List.length_map _
  go_enter Tryz.func12, Tryz.ntmps12
  go_wp2_with fail
  go_loopw [5, 6, 7, 8] (fun v s m i wr => ∃ (j : Nat) (M : List UInt8), j ≤ l.length ∧ i = .int .i64 j ∧ s = .string ⟨(script ((l.map nbC).take j)).toArray⟩ ∧ m = .string ⟨M.toArray⟩ ∧ Hid (MoreT ((l.map nbC).take j) (1441 * j) M) ∧ Hid (FInv w wr) ∧ Hid (∀ x ∈ l.take j, x.l.length ≤ 60) ∧ Hid (wr.ownsRow w.heap.size 24 4 v j (((l.map nbC).take j).flatMap cC))) (fun _ _ _ i _ => 50 - (intOf i).toNat)
  case atStart => exact ⟨0, [], Nat.zero_le _, rfl, rfl, rfl, Lib.hid MoreT.nil, HI, Lib.hid (by simp), Lib.hid (World.ownsRow_nil _ _ _ _)⟩
  case round =>
    obtain ⟨j, M, hj, rfl, rfl, rfl, HM, HI, HL, HO⟩ := hrel
    by_cases hjl : j < l.length
    · obtain ⟨⟨xk, xa, xA, xc, xl⟩, hx⟩ : ∃ x, l[j]? = some x := ⟨_, List.getElem?_eq_getElem hjl⟩
      have hxo := HGo.out _ (List.mem_of_getElem? hx)
      obtain ⟨⟨xk0, xk1⟩, ⟨xa0, xa1⟩, hxr⟩ := hxo
      simp only at xk0 xk1 xa0 xa1 hxr
      obtain ⟨b1, o1, rfl, _, hc1⟩ := (HR.out.below HI.out.2).row (fun _ _ => cellsNb_len _) hx (by decide)
      have x0 : wr.cell? ⟨b1, o1 + j * 3, none⟩ = some (.int .u8 xk) := hc1 0 _ rfl
      have x1 : wr.cell? ⟨b1, o1 + j * 3 + 1, none⟩ = some (.int .u32 xa) := hc1 1 _ rfl
      have x2 : wr.cell? ⟨b1, o1 + j * 3 + 2, none⟩ = some (.slice xA xl.length xc) := hc1 2 _ rfl
      have j1 : (0 : Int) ≤ (j : Int) := by omega
      have j3 : (j : Int) < (l.length : Int) := by omega
      clear hc1
      by_cases hxl : 60 < xl.length
      · have z1 : (60 : Int) < (xl.length : Int) := by omega
        go_wp2_with fail
        refine (works_any _ (FInv.good HI)).mono ?_
        rintro e w2 ⟨rfl, hb⟩
        have HI := FInv.call HI hb
        clear hb
        go_wp2_with fail
        go_ret
        exact ⟨rfl, HI.out.2⟩
      · have z1 : ¬ (60 : Int) < (xl.length : Int) := by omega
        have hok : Cmd.okB (nbC ⟨xk, xa, xA, xc, xl⟩) = true := nbC_ok _ (by show xl.length ≤ 300; omega)
        have hll := nbC_line ⟨xk, xa, xA, xc, xl⟩ (by show xl.length ≤ 60; omega)
        have HCm : Hid (∀ W, Below w.heap.size w W → Good W → Calls Tryz.prog 18 #[nV xk xa xA xl.length xc] W fun e w' => e = .returned (cV (nbC ⟨xk, xa, xA, xc, xl⟩)) ∧ Below W.heap.size W w') := Lib.hid fun W hW hGW => cmdN_any xk xk0 xk1 xa xa0 xa1 xA xc xl (by omega) W ((hxr.below hW).more hW.size) hGW
        have hsz := Cmd.cmdK_size (Cmd.kindN xk) xa xl (by omega)
        have HPr : Hid (∀ W, Good W → Calls Tryz.prog 15 #[cV (nbC ⟨xk, xa, xA, xc, xl⟩)] W fun e w' => e = .returned (.tuple #[.string ⟨(ln (nbC ⟨xk, xa, xA, xc, xl⟩)).toArray⟩, .int .i64 0]) ∧ Below W.heap.size W w') := Lib.hid fun W hGW => by
          have := print_any (nbC ⟨xk, xa, xA, xc, xl⟩) (Nat.le_trans hsz.1 (by decide)) (Nat.le_trans hsz.2.1 (by decide)) (Int.le_trans hsz.2.2.2 (by decide)) W hGW
          rw [(Cmd.print_ok hok).2.1, (Cmd.print_ok hok).2.2] at this
          exact this
        have HL2 : Hid (∀ x ∈ l.take (j + 1), x.l.length ≤ 60) := Lib.hid (by
          rw [take_snoc hx]
          intro y hy
          rcases List.mem_append.1 hy with hy | hy
          · exact HL.out y hy
          · rw [List.mem_singleton.1 hy]; show xl.length ≤ 60; omega)
        have hxm : (l.map nbC)[j]? = some (nbC ⟨xk, xa, xA, xc, xl⟩) := by rw [List.getElem?_map, hx]; rfl
        have HTk : Hid ((l.map nbC).take (j + 1) = (l.map nbC).take j ++ [nbC ⟨xk, xa, xA, xc, xl⟩]) := Lib.hid (take_snoc hxm)
        have HM2 : Hid (MoreT ((l.map nbC).take (j + 1)) (1441 * j + 1301) (M ++ ln (nbC ⟨xk, xa, xA, xc, xl⟩) ++ [10])) := Lib.hid (by rw [HTk.out]; exact HM.out.cmd hok hll)
        have HSc : Hid (script ((l.map nbC).take (j + 1)) = script ((l.map nbC).take j) ++ (ln (nbC ⟨xk, xa, xA, xc, xl⟩) ++ [10])) := Lib.hid (by rw [HTk.out, script_snoc])
        have hsl : (script ((l.map nbC).take j)).length ≤ 1301 * j := by
          have := script_short (cs := (l.map nbC).take j) (fun c hc => by
            obtain ⟨i, hi⟩ := List.getElem?_of_mem hc
            rw [List.getElem?_take] at hi
            split at hi
            · rw [List.getElem?_map] at hi
              obtain ⟨y, hy, rfl⟩ := Option.map_eq_some_iff.1 hi
              exact nbC_line y (HL.out y (List.mem_of_getElem? (by rw [List.getElem?_take, if_pos (by assumption)]; exact hy)))
            · cases hi)
          rw [List.length_take] at this
          exact Nat.le_trans this (Nat.mul_le_mul_left _ (by omega))
        have hml : M.length ≤ 1441 * j := by obtain ⟨_, _, _, _, h⟩ := HM.out; exact h
        obtain ⟨⟨cq, ca, cn, cv⟩, hC⟩ : ∃ c, nbC ⟨xk, xa, xA, xc, xl⟩ = c := ⟨_, rfl⟩
        rw [hC] at HCm HPr hll HTk HM2 HSc
        unfold nV cV at *
        generalize ln ⟨cq, ca, cn, cv⟩ = L at *
        generalize script ((l.map nbC).take j) = S at *
        clear hx hxr hok hsz hC hxm
        have y2 : ¬ 9223372036854775807 < S.length + L.length := by omega
        have y3 : ¬ 9223372036854775807 < S.length + L.length + 1 := by omega
        have y4 : ¬ 9223372036854775807 < M.length + L.length := by omega
        have y5 : ¬ 9223372036854775807 < M.length + L.length + 1 := by omega
        go_wp2_with fail
        refine (HCm.out _ HI.out.2 (FInv.good HI)).mono ?_
        rintro e w2 ⟨rfl, hb⟩
        have HI := FInv.call HI hb
        have hown := own_below HO.out hb
        clear hb x0 x1 x2
        have HI := FInv.alloc HI (.cells #[.int .i64 cq, .int .i64 ca, .string ⟨cn.toArray⟩, .string ⟨cv.toArray⟩] 24)
        have hown := hown.alloc (.cells #[.int .i64 cq, .int .i64 ca, .string ⟨cn.toArray⟩, .string ⟨cv.toArray⟩] 24)
        have HK : Hid (Blk (w2.alloc (.cells #[.int .i64 cq, .int .i64 ca, .string ⟨cn.toArray⟩, .string ⟨cv.toArray⟩] 24)) w2.heap.size 24 #[.int .i64 cq, .int .i64 ca, .string ⟨cn.toArray⟩, .string ⟨cv.toArray⟩]) := Lib.hid (Blk.new _ _ _)
        go_wp2_with fail
        refine (HPr.out _ (FInv.good HI)).mono ?_
        rintro e w3 ⟨rfl, hb⟩
        have HI := FInv.call HI hb
        have hown := own_below hown hb
        have HK := Lib.hid (HK.out.call hb)
        clear hb
        have d0 : w3.cell? ⟨w2.heap.size, 0, none⟩ = some (.int .i64 cq) := HK.out.cell 0
        have d1 : w3.cell? ⟨w2.heap.size, 1, none⟩ = some (.int .i64 ca) := HK.out.cell 1
        have d2 : w3.cell? ⟨w2.heap.size, 2, none⟩ = some (.string ⟨cn.toArray⟩) := HK.out.cell 2
        have d3 : w3.cell? ⟨w2.heap.size, 3, none⟩ = some (.string ⟨cv.toArray⟩) := HK.out.cell 3
        have hown3 := hown
        go_wp2_with (at_builtin; refine wpList_append_own _ rfl _ _ 22 rfl w.heap.size 24 i0 (.agg #[.int .i64 0, .int .i64 0, .string ⟨#[]⟩, .string ⟨#[]⟩]) 4 48 Tryz.underlying22 hi hz0 hz1 hz2 rfl (by decide) _ _ _ rfl (hown3.alloc _) ⟨w3.heap.size, 0, none⟩ 1 1 [.int .i64 cq, .int .i64 ca, .string ⟨cn.toArray⟩, .string ⟨cv.toArray⟩] rfl rfl ?c1 ?c2 ?c3 ?c4 ?c5 ?_)
        case c1 => exact news_all w3 24 [.int .i64 cq, .int .i64 ca, .string ⟨cn.toArray⟩, .string ⟨cv.toArray⟩]
        case c2 => intro u hu; simp at hu; rcases hu with rfl | rfl | rfl | rfl <;> rfl
        case c3 => unfold maxLen; omega
        case c4 => omega
        case c5 => have := HI.out.2.size; simp; omega
        intro v' w4 hown4 hg4 _
        have HO4 : Hid (w4.ownsRow w.heap.size 24 4 v' (j + 1) (((l.map nbC).take (j + 1)).flatMap cC)) := Lib.hid (by rw [HTk.out, List.flatMap_append]; exact hown4)
        have HI4 := FInv.of HG.out ((below_new HI.out.2 (.cells #[.int .i64 cq, .int .i64 ca, .string ⟨cn.toArray⟩, .string ⟨cv.toArray⟩] 24)).grown hg4 (by have := HI.out.2.size; simp; omega) (fun g hg => (hown3.lt g hg).1))
        clear hown3 hown4 hg4 hown d0 d1 d2 d3 HK
        go_wp2_with fail
        go_loopw [7, 12] (fun m i wr => ∃ (p : Nat) (M' : List UInt8), p ≤ sk.length ∧ i = .int .i64 p ∧ m = .string ⟨M'.toArray⟩ ∧ Hid (MoreT ((l.map nbC).take (j + 1)) (1441 * j + 1301 + 7 * p) M') ∧ Hid (FInv w wr) ∧ Hid (wr.ownsRow w.heap.size 24 4 v' (j + 1) (((l.map nbC).take (j + 1)).flatMap cC))) (fun _ i _ => 30 - (intOf i).toNat)
        case atStart => exact ⟨0, M ++ L ++ [10], Nat.zero_le _, rfl, by simp only [ByteArray.mk_append_mk], HM2, HI4, HO4⟩
        case round =>
          obtain ⟨p, M', hp, rfl, rfl, HM', HI, HO'⟩ := hrel
          by_cases hpl : p < sk.length
          · obtain ⟨c, hc⟩ : ∃ c, sk[p]? = some c := ⟨_, List.getElem?_eq_getElem hpl⟩
            obtain ⟨b2, o2, rfl, hbB, hrc⟩ := HR2.out (fun e => by have := congrArg List.length e; simp [bytesV] at this; rw [this] at hpl; simp at hpl)
            have hcell2 := (HI.out.2.cell (p := ⟨b2, o2 + p, none⟩) hbB).trans (hrc p (.int .u8 (c.toNat : Int)) (by simp [bytesV, hc]))
            have hc256 := c.toNat_lt
            have c0 : (0 : Int) ≤ (c.toNat : Int) := by omega
            have c1 : (c.toNat : Int) ≤ 255 := by omega
            have q1 : (0 : Int) ≤ (p : Int) := by omega
            have q2 : (p : Int) < (sk.length : Int) := by omega
            have hml' : M'.length ≤ 1441 * j + 1301 + 7 * p := by obtain ⟨_, _, _, _, h⟩ := HM'.out; exact h
            clear hrc hc
            by_cases hcj : (c.toNat : Int) % 40 = (j : Int)
            · have e1 : ((c.toNat : Int) % 40 == (j : Int)) = true := by rw [hcj]; simp
              have HI5 := FInv.alloc HI (.cells #[.string ⟨#[10]⟩, .string ⟨#[35, 32, 115, 116, 101, 112, 10]⟩, .string ⟨#[35, 10]⟩] 9)
              have HO5 := Lib.hid (HO'.out.alloc (.cells #[.string ⟨#[10]⟩, .string ⟨#[35, 32, 115, 116, 101, 112, 10]⟩, .string ⟨#[35, 10]⟩] 9))
              have HCJ := Lib.hid hcj
              clear hcj
              have r1 : ¬ 9223372036854775807 < M'.length + 1 := by omega
              have r2 : ¬ 9223372036854775807 < M'.length + 7 := by omega
              have r3 : ¬ 9223372036854775807 < M'.length + 2 := by omega
              rcases (show (p : Int) % 3 = 0 ∨ (p : Int) % 3 = 1 ∨ (p : Int) % 3 = 2 by omega) with h3 | h3 | h3
              · go_wp2_with fail
                go_roundw
                case rel => exact ⟨p + 1, M' ++ [10], by omega, by go_num, by simp only [ByteArray.mk_append_mk], Lib.hid ((HM'.out.skip (x := [10]) (by decide)).le (by omega)), HI5, HO5⟩
                case measure => simp [intOf]; omega
              · go_wp2_with fail
                go_roundw
                case rel => exact ⟨p + 1, M' ++ [35, 32, 115, 116, 101, 112, 10], by omega, by go_num, by simp only [ByteArray.mk_append_mk], Lib.hid ((HM'.out.skip (x := [35, 32, 115, 116, 101, 112, 10]) (by decide)).le (by omega)), HI5, HO5⟩
                case measure => simp [intOf]; omega
              · go_wp2_with fail
                go_roundw
                case rel => exact ⟨p + 1, M' ++ [35, 10], by omega, by go_num, by simp only [ByteArray.mk_append_mk], Lib.hid ((HM'.out.skip (x := [35, 10]) (by decide)).le (by omega)), HI5, HO5⟩
                case measure => simp [intOf]; omega
            · have e1 : ((c.toNat : Int) % 40 == (j : Int)) = false := by simpa using hcj
              have HCJ := Lib.hid hcj
              clear hcj
              go_wp2_with fail
              go_roundw
              case rel => exact ⟨p + 1, M', by omega, by go_num, rfl, Lib.hid (HM'.out.le (by omega)), HI, HO'⟩
              case measure => simp [intOf]; omega
          · obtain rfl : p = sk.length := by omega
            go_wp2_with fail
            go_roundw
            case rel => exact ⟨j + 1, M', by omega, by go_num, by rw [HSc.out]; simp only [ByteArray.mk_append_mk, List.append_assoc], rfl, Lib.hid (HM'.out.le (by omega)), HI, HL2, HO'⟩
            case measure => simp [intOf]; omega
    · obtain rfl : j = l.length := by omega
      have hl60 := HL.out
      rw [List.take_length] at hl60
      have htk : (l.map nbC).take l.length = l.map nbC := by rw [← hcl, List.take_length]
      have hokA : ∀ c ∈ l.map nbC, Cmd.okB c = true ∧ okC c ∧ (ln c).length ≤ 1300 := by
        intro c hc
        obtain ⟨x, hx, rfl⟩ := List.mem_map.1 hc
        have h6 := hl60 x hx
        have hs := Cmd.cmdK_size (Cmd.kindN x.k) x.a x.l (by omega)
        exact ⟨nbC_ok x (by omega), ⟨Nat.le_trans hs.1 (by decide), Nat.le_trans hs.2.1 (by decide), Int.le_trans hs.2.2.2 (by decide)⟩, nbC_line x h6⟩
      rw [htk] at HM HO ⊢
      generalize l.map nbC = cs at *
      obtain ⟨A5, cap5, rfl, r5⟩ := own_slice HO.out
      have hSl := script_short fun c hc => (hokA c hc).2.2
      have hsg := script_good (cs := cs) (by omega) fun c hc => (hokA c hc).1
      have hpa := fun W h1 h2 => printAll_any A5 cap5 cs (by omega) (fun c hc => (hokA c hc).2.1) W h1 h2
      rw [hsg.1, hsg.2, hcl] at hpa
      obtain ⟨is, hi1, hi2, hi3, hi4⟩ := HM.out
      have hT1 : allR (script cs) = (cs, 0, 0) := by
        rw [← asIt_txt, allR_items (asIt_good fun c hc => (hokA c hc).1) (by rw [asIt_cs]; omega), asIt_cs]
      have hT2 : allR M = (cs, 0, 0) := by rw [hi3, allR_items hi1 (by rw [hi2]; omega), hi2]
      have hT3 : allR ((script cs).take ((script cs).length - 1)) = (cs, 0, 0) := allR_cut (fun c hc => (hokA c hc).1) (by omega)
      generalize script cs = S at *
      have HPA := Lib.hid hpa
      have HT1 := Lib.hid hT1
      have HT2 := Lib.hid hT2
      have HT3 := Lib.hid hT3
      have HR5 := Lib.hid r5
      clear hpa hsg hi1 hi2 hi3 hT1 hT2 hT3 hl60 htk r5
      go_wp2_with fail
      refine (HPA.out _ HR5.out (FInv.good HI)).mono ?_
      rintro e w2 ⟨rfl, hb⟩
      have HI := FInv.call HI hb
      have HR5 := Lib.hid ((HR5.out.below hb).more hb.size)
      clear hb
      go_wp2_with fail
      obtain ⟨T3, hT3⟩ : ∃ T, S.take (S.length - 1) = T := ⟨_, rfl⟩
      have hx3 : (⟨S.toArray⟩ : ByteArray).extract 0 (max 0 ((S.length : Int) - 1)).toNat = ⟨T3.toArray⟩ := by
        rw [mk_extract, List.drop_zero, ← hT3]
        congr 3
        omega
      rw [hT3] at HT3
      have hT3l : T3.length ≤ S.length := by rw [← hT3, List.length_take]; omega
      rw [hx3]
      have HB : Hid (Blk (w2.alloc (.cells #[.string ⟨S.toArray⟩, .string ⟨M.toArray⟩, .string ⟨T3.toArray⟩] 9)) w2.heap.size 9 #[.string ⟨S.toArray⟩, .string ⟨M.toArray⟩, .string ⟨T3.toArray⟩]) := Lib.hid (Blk.new _ _ _)
      have HI := FInv.alloc HI (.cells #[.string ⟨S.toArray⟩, .string ⟨M.toArray⟩, .string ⟨T3.toArray⟩] 9)
      have HR5 := Lib.hid ((HR5.out.alloc (Nat.le_refl _) (.cells #[.string ⟨S.toArray⟩, .string ⟨M.toArray⟩, .string ⟨T3.toArray⟩] 9)).more (B' := (w2.alloc (.cells #[.string ⟨S.toArray⟩, .string ⟨M.toArray⟩, .string ⟨T3.toArray⟩] 9)).heap.size) (by simp))
      have HSl : Hid (S.length ≤ 100000 ∧ M.length ≤ 100000 ∧ T3.length ≤ 100000) := Lib.hid ⟨by omega, by omega, by omega⟩
      clear hx3 hT3 hT3l hi4 hSl
      go_loopw [111] (fun i wr => ∃ q : Nat, q ≤ 3 ∧ i = .int .i64 q ∧ Hid (FInv w wr) ∧ Hid (Blk wr w2.heap.size 9 #[.string ⟨S.toArray⟩, .string ⟨M.toArray⟩, .string ⟨T3.toArray⟩]) ∧ Hid (Rd wr wr.heap.size A5 (cs.flatMap cC))) (fun i _ => 3 - (intOf i).toNat)
      case atStart => exact ⟨0, Nat.zero_le _, rfl, HI, HB, HR5⟩
      case round =>
        obtain ⟨q, hq, rfl, HI, HB, HR5⟩ := hrel
        by_cases hq3 : q < 3
        · have key : ∃ T : List UInt8, allR T = (cs, 0, 0) ∧ T.length ≤ 100000 ∧ wr.cell? ⟨w2.heap.size, q, none⟩ = some (.string ⟨T.toArray⟩) := by
            have h0 := HB.out.cell 0
            have h1 := HB.out.cell 1
            have h2 := HB.out.cell 2
            rcases (show q = 0 ∨ q = 1 ∨ q = 2 by omega) with rfl | rfl | rfl
            · exact ⟨S, HT1.out, HSl.out.1, h0⟩
            · exact ⟨M, HT2.out, HSl.out.2.1, h1⟩
            · exact ⟨T3, HT3.out, HSl.out.2.2, h2⟩
          obtain ⟨T, hT, hTl, ht⟩ := key
          have HT := Lib.hid hT
          have q1 : (0 : Int) ≤ (q : Int) := by omega
          have q2 : (q : Int) < 3 := by omega
          clear hT
          go_wp2_with fail
          refine (parseAll_any T hTl _ (FInv.good HI)).mono ?_
          rintro e w3 ⟨v, rfl, o, hb⟩
          rw [HT.out] at o ⊢
          simp only at o ⊢
          rw [hcl] at o
          have HI := FInv.call HI hb
          have HB := Lib.hid (HB.out.call hb)
          have HR5 := Lib.hid ((HR5.out.below hb).more hb.size)
          obtain ⟨A9, k9, rfl, r9⟩ := own_slice o
          have HR9 := Lib.hid r9
          clear hb o ht r9
          go_wp2_with fail
          go_loopw [20] (fun i wr => ∃ p : Nat, p ≤ l.length ∧ i = .int .i64 p ∧ Hid (FInv w wr) ∧ Hid (Below w3.heap.size w3 wr)) (fun i _ => 50 - (intOf i).toNat)
          case atStart => exact ⟨0, Nat.zero_le _, rfl, HI, Lib.hid (Below.refl _ _)⟩
          case round =>
            obtain ⟨p, hp, rfl, HI, HBl⟩ := hrel
            by_cases hpl : p < l.length
            · obtain ⟨⟨q1', a1, n1, v1⟩, hv1⟩ : ∃ v, cs[p]? = some v := ⟨_, List.getElem?_eq_getElem (by omega)⟩
              obtain ⟨b1, o1, rfl, _, hc1⟩ := (HR9.out.below HBl.out).row (fun _ _ => cC_len _) hv1 (by decide)
              obtain ⟨b2, o2, rfl, _, hc2⟩ := (HR5.out.below HBl.out).row (fun _ _ => cC_len _) hv1 (by decide)
              have x0 : wr.cell? ⟨b1, o1 + p * 4, none⟩ = some (.int .i64 q1') := hc1 0 _ rfl
              have x1 : wr.cell? ⟨b1, o1 + p * 4 + 1, none⟩ = some (.int .i64 a1) := hc1 1 _ rfl
              have x2 : wr.cell? ⟨b1, o1 + p * 4 + 2, none⟩ = some (.string ⟨n1.toArray⟩) := hc1 2 _ rfl
              have x3 : wr.cell? ⟨b1, o1 + p * 4 + 3, none⟩ = some (.string ⟨v1.toArray⟩) := hc1 3 _ rfl
              have y0 : wr.cell? ⟨b2, o2 + p * 4, none⟩ = some (.int .i64 q1') := hc2 0 _ rfl
              have y1 : wr.cell? ⟨b2, o2 + p * 4 + 1, none⟩ = some (.int .i64 a1) := hc2 1 _ rfl
              have y2 : wr.cell? ⟨b2, o2 + p * 4 + 2, none⟩ = some (.string ⟨n1.toArray⟩) := hc2 2 _ rfl
              have y3 : wr.cell? ⟨b2, o2 + p * 4 + 3, none⟩ = some (.string ⟨v1.toArray⟩) := hc2 3 _ rfl
              have p1 : (0 : Int) ≤ (p : Int) := by omega
              have p2 : (p : Int) < (l.length : Int) := by omega
              clear hc1 hc2 hv1
              go_wp2_with fail
              go_region
              all_goals (
                go_wp2_with fail
                go_roundw
                case rel => exact ⟨p + 1, by omega, by go_num, FInv.drew HI, Lib.hid HBl.out.drew⟩
                case measure => simp [intOf]; omega)
            · obtain rfl : p = l.length := by omega
              have HB := Lib.hid (HB.out.below HBl.out HB.out.lt)
              have HR5 := Lib.hid ((HR5.out.below HBl.out).more HBl.out.size)
              go_wp2_with fail
              go_roundw
              case rel => exact ⟨q + 1, by omega, by go_num, HI, HB, HR5⟩
              case measure => simp [intOf]; omega
        · obtain rfl : q = 3 := by omega
          rw [show ((3 : Nat) : Int) = 3 from rfl]
          go_wp2_with fail
          refine (works_any _ (FInv.good HI)).mono ?_
          rintro e w4 ⟨rfl, hb⟩
          have HI := FInv.call HI hb
          clear hb
          go_wp2_with fail
          go_ret
          exact ⟨rfl, HI.out.2⟩

set_option maxRecDepth 20000 in
theorem commandLists_walk (w : World) (A : Option Addr) (cap : Nat) (l : List Nb) (_ : l.length ≤ cap) (_ : cap ≤ maxLen) (hg : ∀ x ∈ l, Nb.Ok w x) (hrd : Rd w w.heap.size A (l.flatMap cellsNb)) (B : Option Addr) (cap2 : Nat) (sk : List UInt8) (_ : sk.length ≤ cap2) (_ : cap2 ≤ maxLen) (_ : ∀ x ∈ sk, True) (hrd2 : Rd w w.heap.size B (sk.flatMap fun y => [Value.int .u8 (y.toNat : Int)])) (hG : Good w) :
    Calls Tryz.prog 12 #[.slice A l.length cap, .slice B sk.length cap2] w fun e w' => e = .returned (.bool true) ∧ Below w.heap.size w w' := by
  rw [flat_bytes] at hrd2
  by_cases hl : l.length ≤ 40
  · by_cases hs : sk.length ≤ 20
    · exact lists_some A cap l hl B cap2 sk hs w hg hrd hrd2 hG
    · have HI : Hid (FInv w w) := Lib.hid ⟨hG, Below.refl _ _⟩
      have hl1 : ¬ (40 : Int) < (l.length : Int) := by omega
      have hl2 : (20 : Int) < (sk.length : Int) := by omega
      clear hG hrd hg hrd2
      go_enter Tryz.func12, Tryz.ntmps12
      go_wp2_with fail
      refine (works_any _ (FInv.good HI)).mono ?_
      rintro e w2 ⟨rfl, b⟩
      have HI := FInv.call HI b
      clear b
      go_wp2_with fail
      go_ret
      exact ⟨rfl, HI.out.2⟩
  · have HI : Hid (FInv w w) := Lib.hid ⟨hG, Below.refl _ _⟩
    have hl1 : (40 : Int) < (l.length : Int) := by omega
    clear hG hrd hg hrd2
    go_enter Tryz.func12, Tryz.ntmps12
    go_wp2_with fail
    refine (works_any _ (FInv.good HI)).mono ?_
    rintro e w2 ⟨rfl, b⟩
    have HI := FInv.call HI b
    clear b
    go_wp2_with fail
    go_ret
    exact ⟨rfl, HI.out.2⟩
end Go.Proofs.YtphpgbbjbncfoaaGreatDoor
