/-
  LAYER 42: the line that is wrong: the statement's walk.
-/
import Derived.Test.YtphpgbbjbncfoaaGreatDoorComNW
import Derived.Test.YtphpgbbjbncfoaaGreatDoorComS
import Derived.Test.YtphpgbbjbncfoaaGreatDoorComG
import Derived.Test.YtphpgbbjbncfoaaGreatDoorCom16
namespace Go.Proofs.YtphpgbbjbncfoaaGreatDoor
open Go.ChangeShapes Go.WideShapes Go.ChangeAt Go.RowKit

def badV : List Value := badL.map fun b => Value.string ⟨b.toArray⟩
theorem badV_at (k : Int) : badV[(k % 30).toNat]? = some (.string ⟨(badN k).toArray⟩) := by
  have h' : (k % 30).toNat < badL.length := by rw [badL_len]; omega
  unfold badV badN
  rw [List.getElem?_map, List.getElem?_eq_getElem h']
  rfl
set_option maxHeartbeats 4000000 in
set_option maxRecDepth 100000 in
theorem bad_any (k : Int) (h0 : 0 ≤ k) (h1 : k ≤ 255) (w : World) : Calls Tryz.prog 27 #[.int .u8 k] w fun e w' => e = .returned (.string ⟨(badN k).toArray⟩) ∧ Below w.heap.size w w' := by
  have hx : ([.string ⟨#[115, 116, 101]⟩, .string ⟨#[115, 116, 101, 112, 32]⟩, .string ⟨#[32, 115, 116, 101, 112]⟩, .string ⟨#[83, 116, 101, 112]⟩, .string ⟨#[103, 111, 116, 111]⟩, .string ⟨#[103, 111, 116, 111, 32]⟩, .string ⟨#[103, 111, 116, 111, 32, 45, 49]⟩, .string ⟨#[103, 111, 116, 111, 32, 49, 48, 48, 48, 48, 48, 48, 48, 48, 49]⟩, .string ⟨#[103, 111, 116, 111, 32, 48, 48]⟩, .string ⟨#[103, 111, 116, 111, 32, 57, 57, 57, 57, 57, 57, 57, 57, 57, 57, 57, 57, 57, 57, 57, 57, 57, 57, 57, 57]⟩, .string ⟨#[105, 110, 112, 117, 116]⟩, .string ⟨#[105, 110, 112, 117, 116, 32, 49, 44]⟩, .string ⟨#[105, 110, 112, 117, 116, 32, 49, 44, 32, 50]⟩, .string ⟨#[108, 111, 97, 100]⟩, .string ⟨#[108, 111, 97, 100, 32, 97, 92]⟩, .string ⟨#[101, 100, 105, 116, 32, 92, 120, 48, 65]⟩, .string ⟨#[108, 111, 97, 100, 32, 92, 120, 52, 49]⟩, .string ⟨#[101, 100, 105, 116, 32, 255]⟩, .string ⟨#[98, 114, 101, 97, 107, 32, 102]⟩, .string ⟨#[98, 114, 101, 97, 107, 32, 49, 32, 102]⟩, .string ⟨#[98, 114, 101, 97, 107, 32, 102, 32, 50, 48, 49]⟩, .string ⟨#[98, 114, 101, 97, 107, 32, 102, 32, 49, 32]⟩, .string ⟨#[98, 114, 101, 97, 107, 32, 108, 101, 110, 32, 49]⟩, .string ⟨#[98, 114, 101, 97, 107, 32, 32, 49]⟩, .string ⟨#[98, 114, 101, 97, 107, 32, 97, 118, 101, 114, 121, 118, 101, 114, 121, 108, 111, 110, 103, 110, 97, 109, 101, 32, 49]⟩, .string ⟨#[118, 97, 114, 115, 32, 50, 48, 49]⟩, .string ⟨#[118, 97, 114, 115]⟩, .string ⟨#[108, 105, 115, 116, 32, 49]⟩, .string ⟨#[119, 104, 101, 114, 101, 35]⟩, .string ⟨#[111, 117, 116, 112, 117, 116, 9]⟩] : List Value)[(k % 30).toNat]? = some (.string ⟨(badN k).toArray⟩) := badV_at k
  generalize badN k = N at *
  go_enter Tryz.func27, Tryz.ntmps27
  go_wp2_with fail
  go_ret
  exact ⟨rfl, below_new (Below.refl _ _) _⟩

/-- The text as far as command i. -/
def wrT (pre bad : List UInt8) (n : Nat) (cs : List Cmd.C) : Nat → List UInt8
  | 0 => pre
  | i + 1 => wrT pre bad n cs i ++ (if i = n then bad ++ [10] else []) ++ (ln ((cs[i]?).getD Cmd.zero) ++ [10])
theorem wrT_before {pre bad : List UInt8} {n : Nat} {cs : List Cmd.C} : ∀ i, i ≤ n → i ≤ cs.length → wrT pre bad n cs i = pre ++ script (cs.take i)
  | 0, _, _ => by simp [wrT, script]
  | i + 1, h1, h2 => by
    obtain ⟨c, hc⟩ : ∃ c, cs[i]? = some c := ⟨_, List.getElem?_eq_getElem h2⟩
    rw [wrT, wrT_before i (by omega) (by omega), if_neg (by omega), hc, take_snoc hc, script_snoc]
    simp
theorem wrT_behind {pre bad : List UInt8} {n : Nat} {cs : List Cmd.C} : ∀ i, n < i → i ≤ cs.length → ∃ t, wrT pre bad n cs i = pre ++ script (cs.take n) ++ (bad ++ 10 :: t)
  | 0, h, _ => absurd h (Nat.not_lt_zero _)
  | i + 1, h1, h2 => by
    by_cases h : i = n
    · subst h
      rw [wrT, wrT_before i (Nat.le_refl _) (by omega), if_pos rfl]
      exact ⟨ln ((cs[i]?).getD Cmd.zero) ++ [10], by simp⟩
    · obtain ⟨t, ht⟩ := wrT_behind (pre := pre) (bad := bad) (n := n) (cs := cs) i (by omega) (by omega)
      rw [wrT, ht, if_neg h]
      exact ⟨t ++ (ln ((cs[i]?).getD Cmd.zero) ++ [10]), by simp⟩
theorem wrT_len {pre bad : List UInt8} {n : Nat} {cs : List Cmd.C} (hp : pre.length ≤ 10) (hb : bad.length ≤ 30) : ∀ i, i ≤ cs.length → (∀ j c, j < i → cs[j]? = some c → (ln c).length ≤ 1300) → (wrT pre bad n cs i).length ≤ 10 + 1400 * i
  | 0, _, _ => by simp [wrT]; omega
  | i + 1, h1, h2 => by
    have ih := wrT_len (n := n) hp hb i (by omega) (fun j c hj => h2 j c (by omega))
    obtain ⟨c, hc⟩ : ∃ c, cs[i]? = some c := ⟨_, List.getElem?_eq_getElem h1⟩
    have hl := h2 i c (by omega) hc
    rw [wrT, hc]
    split <;> simp <;> omega
/-- What the whole text says. -/
theorem wrT_says {k n : Nat} {b : List UInt8} {cs : List Cmd.C} (hb : b ∈ badL) (hn : n ≤ cs.length) (hcl : cs.length ≤ 20) (hok : ∀ c ∈ cs, Cmd.okB c = true) :
    allR (wrT (List.replicate k 10) b n cs cs.length ++ (if n = cs.length then b else [])) = ([], (k : Int) + n + 1, 7) := by
  obtain ⟨h1, h2, h3, h4⟩ := badL_is b hb
  have hgood : ∀ i ∈ feeds k ++ asIt (cs.take n), GoodIt i := good_append (feeds_good k) (asIt_good fun c hc => hok c (List.mem_of_mem_take hc))
  have hcs : itCs (feeds k ++ asIt (cs.take n)) = cs.take n := by rw [itCs_append, feeds_cs, asIt_cs]; rfl
  have htx : itTxt (feeds k ++ asIt (cs.take n)) = List.replicate k 10 ++ script (cs.take n) := by rw [itTxt_append, feeds_txt, asIt_txt]
  have hln : ((feeds k ++ asIt (cs.take n)).length : Int) + 1 = (k : Int) + n + 1 := by
    rw [List.length_append, asIt_len, List.length_take]
    unfold feeds
    rw [List.length_replicate]
    omega
  have key : ∃ r, wrT (List.replicate k 10) b n cs cs.length ++ (if n = cs.length then b else []) = List.replicate k 10 ++ script (cs.take n) ++ (b ++ r) ∧ (r = [] ∨ ∃ t, r = 10 :: t) := by
    by_cases h : n = cs.length
    · refine ⟨[], ?_, .inl rfl⟩
      rw [if_pos h, wrT_before _ (by omega) (Nat.le_refl _), h]
      simp
    · obtain ⟨t, ht⟩ := wrT_behind (pre := List.replicate k 10) (bad := b) (n := n) (cs := cs) cs.length (by omega) (Nat.le_refl _)
      refine ⟨10 :: t, ?_, .inr ⟨t, rfl⟩⟩
      rw [if_neg h, ht, List.append_nil]
  obtain ⟨r, e, hr⟩ := key
  rw [e, ← htx, allR_wrong hgood (by rw [hcs, List.length_take]; omega) h1 (by omega) h2 h4 hr, hln]

def nbC (x : Nb) : Cmd.C := Cmd.cmdN x.k x.a x.l
theorem nbC_ok (x : Nb) (h : x.l.length ≤ 300) : Cmd.okB (nbC x) = true := Cmd.cmdK_ok _ _ _ Cmd.kindN_is.1 Cmd.kindN_is.2 h
theorem nbC_line (x : Nb) (h : x.l.length ≤ 60) : (ln (nbC x)).length ≤ 1300 := cmdK_line _ _ _ h

set_option maxHeartbeats 8000000 in
set_option maxRecDepth 20000 in
theorem wrong_some (A : Option Addr) (cap : Nat) (l : List Nb) (hl : l.length ≤ 20) (at_ : Int) (t0 : 0 ≤ at_) (t1 : at_ ≤ 255) (skip : Int) (s0 : 0 ≤ skip) (s1 : skip ≤ 255) (which : Int) (w0 : 0 ≤ which) (w1 : which ≤ 255) (w : World) (hg : ∀ x ∈ l, Nb.Ok w x) (hrd : Rd w w.heap.size A (l.flatMap cellsNb)) (hG : Good w) :
    Calls Tryz.prog 7 #[.slice A l.length cap, .int .u8 at_, .int .u8 skip, .int .u8 which] w fun e w' => e = .returned (.bool true) ∧ Below w.heap.size w w' := by
  have HI : Hid (FInv w w) := Lib.hid ⟨hG, Below.refl _ _⟩
  have HR := Lib.hid hrd
  have HGo := Lib.hid hg
  have HG := Lib.hid hG
  clear hG hrd hg
  have hl1 : ¬ (20 : Int) < (l.length : Int) := by omega
  obtain ⟨K, hK⟩ : ∃ K : Nat, skip % 5 = K := ⟨(skip % 5).toNat, by omega⟩
  have hK2 : K < 5 := by omega
  obtain ⟨n, hn⟩ : ∃ n : Nat, at_ % ((l.length : Int) + 1) = n := ⟨(at_ % ((l.length : Int) + 1)).toNat, by
    have := Int.emod_nonneg at_ (show (l.length : Int) + 1 ≠ 0 by omega)
    omega⟩
  have hn2 : n ≤ l.length := by
    have := Int.emod_lt_of_pos at_ (show (0 : Int) < (l.length : Int) + 1 by omega)
    omega
  have hnt : Int.tmod at_ ((l.length : Int) + 1) = n := by rw [Int.tmod_eq_emod_of_nonneg t0]; exact hn
  have hne : ¬ (l.length : Int) + 1 = 0 := by omega
  have hne2 : ((l.length : Int) + 1 == 0) = false := by simp; omega
  have HBad : Hid (∀ W, Calls Tryz.prog 27 #[.int .u8 which] W fun e w' => e = .returned (.string ⟨(badN which).toArray⟩) ∧ Below W.heap.size W w') := Lib.hid fun W => bad_any which w0 w1 W
  have hbm := badN_mem which
  obtain ⟨b, hb⟩ : ∃ b, badN which = b := ⟨_, rfl⟩
  rw [hb] at HBad hbm
  have hbl := (badL_is b hbm).2.2.1
  have HBM := Lib.hid hbm
  clear hb hbm
  go_enter Tryz.func7, Tryz.ntmps7
  go_wp2_with fail
  go_loopw [10, 11] (fun s i wr => ∃ k : Nat, k ≤ K ∧ i = .int .i64 k ∧ s = .string ⟨(List.replicate k (10 : UInt8)).toArray⟩ ∧ Hid (FInv w wr)) (fun _ i _ => 10 - (intOf i).toNat)
  case atStart => exact ⟨0, Nat.zero_le _, rfl, rfl, HI⟩
  case round =>
    obtain ⟨k, hk, rfl, rfl, HI⟩ := hrel
    by_cases hlt : k < K
    · have z1 : (k : Int) < (K : Int) := by omega
      have z2 : ¬ 9223372036854775807 < (List.replicate k (10 : UInt8)).length + 1 := by simp; omega
      have HS : Hid (List.replicate (k + 1) (10 : UInt8) = List.replicate k 10 ++ [10]) := Lib.hid List.replicate_succ'
      generalize List.replicate k (10 : UInt8) = S at *
      go_wp2_with fail
      rw [show (⟨#[10]⟩ : ByteArray) = ⟨[10].toArray⟩ from rfl, ByteArray.mk_append_mk]
      go_roundw
      case rel => exact ⟨k + 1, by omega, by go_num, by rw [HS.out], HI⟩
      case measure => simp [intOf]; omega
    · obtain rfl : k = K := by omega
      have hcl : (l.map nbC).length = l.length := List.length_map _
      go_wp2_with fail
      have HKK := Lib.hid hK
      clear hK
      go_loopw [10, 12] (fun s i wr => ∃ j : Nat, j ≤ l.length ∧ i = .int .i64 j ∧ s = .string ⟨(wrT (List.replicate k 10) b n (l.map nbC) j).toArray⟩ ∧ Hid (FInv w wr) ∧ Hid (∀ x ∈ l.take j, x.l.length ≤ 60)) (fun _ i _ => 30 - (intOf i).toNat)
      case atStart => exact ⟨0, Nat.zero_le _, rfl, rfl, HI, Lib.hid (by simp)⟩
      case round =>
        obtain ⟨j, hj, rfl, rfl, HI, HL⟩ := hrel
        have hwl : (wrT (List.replicate k 10) b n (l.map nbC) j).length ≤ 10 + 1400 * j := wrT_len (by simp; omega) hbl j (by omega) (fun i c hi hc => by
          rw [List.getElem?_map] at hc
          obtain ⟨x, hx, rfl⟩ := Option.map_eq_some_iff.1 hc
          exact nbC_line x (HL.out x (List.mem_of_getElem? (by rw [List.getElem?_take, if_pos hi]; exact hx))))
        by_cases hjl : j < l.length
        · obtain ⟨⟨xk, xa, xA, xc, xl⟩, hx⟩ : ∃ x, l[j]? = some x := ⟨_, List.getElem?_eq_getElem hjl⟩
          have hxo := HGo.out _ (List.mem_of_getElem? hx)
          obtain ⟨⟨xk0, xk1⟩, ⟨xa0, xa1⟩, hxr⟩ := hxo
          simp only at xk0 xk1 xa0 xa1 hxr
          obtain ⟨b1, o1, rfl, _, hc1⟩ := (HR.out.below HI.out.2).row (fun _ _ => cellsNb_len _) hx (by decide)
          have x0 : wr.cell? ⟨b1, o1 + j * 3, none⟩ = some (.int .u8 xk) := hc1 0 _ rfl
          have x1 : wr.cell? ⟨b1, o1 + j * 3 + 1, none⟩ = some (.int .u32 xa) := hc1 1 _ rfl
          have x2 : wr.cell? ⟨b1, o1 + j * 3 + 2, none⟩ = some (.slice xA xl.length xc) := hc1 2 _ rfl
          have j1 : (0 : Int) ≤ (j : Int) := by omega
          have j3 : (j : Int) < (l.length : Int) := by omega
          clear hc1
          by_cases hxl : 60 < xl.length
          · have z1 : (60 : Int) < (xl.length : Int) := by omega
            go_wp2_with fail
            refine (works_any _ (FInv.good HI)).mono ?_
            rintro e w2 ⟨rfl, hb⟩
            have HI := FInv.call HI hb
            clear hb
            go_wp2_with fail
            go_ret
            exact ⟨rfl, HI.out.2⟩
          · have z1 : ¬ (60 : Int) < (xl.length : Int) := by omega
            have hok : Cmd.okB (nbC ⟨xk, xa, xA, xc, xl⟩) = true := nbC_ok _ (by show xl.length ≤ 300; omega)
            have hll := nbC_line ⟨xk, xa, xA, xc, xl⟩ (by show xl.length ≤ 60; omega)
            have HCm : Hid (∀ W, Below w.heap.size w W → Good W → Calls Tryz.prog 18 #[nV xk xa xA xl.length xc] W fun e w' => e = .returned (cV (nbC ⟨xk, xa, xA, xc, xl⟩)) ∧ Below W.heap.size W w') := Lib.hid fun W hW hGW => cmdN_any xk xk0 xk1 xa xa0 xa1 xA xc xl (by omega) W ((hxr.below hW).more hW.size) hGW
            have hsz := Cmd.cmdK_size (Cmd.kindN xk) xa xl (by omega)
            have HPr : Hid (∀ W, Good W → Calls Tryz.prog 15 #[cV (nbC ⟨xk, xa, xA, xc, xl⟩)] W fun e w' => e = .returned (.tuple #[.string ⟨(ln (nbC ⟨xk, xa, xA, xc, xl⟩)).toArray⟩, .int .i64 0]) ∧ Below W.heap.size W w') := Lib.hid fun W hGW => by
              have := print_any (nbC ⟨xk, xa, xA, xc, xl⟩) (Nat.le_trans hsz.1 (by decide)) (Nat.le_trans hsz.2.1 (by decide)) (Int.le_trans hsz.2.2.2 (by decide)) W hGW
              rw [(Cmd.print_ok hok).2.1, (Cmd.print_ok hok).2.2] at this
              exact this
            have HL2 : Hid (∀ x ∈ l.take (j + 1), x.l.length ≤ 60) := Lib.hid (by
              rw [take_snoc hx]
              intro y hy
              rcases List.mem_append.1 hy with hy | hy
              · exact HL.out y hy
              · rw [List.mem_singleton.1 hy]; show xl.length ≤ 60; omega)
            have HS : Hid (wrT (List.replicate k 10) b n (l.map nbC) (j + 1) = wrT (List.replicate k 10) b n (l.map nbC) j ++ (if j = n then b ++ [10] else []) ++ (ln (nbC ⟨xk, xa, xA, xc, xl⟩) ++ [10])) := Lib.hid (by
              rw [wrT, List.getElem?_map, hx]
              rfl)
            obtain ⟨⟨cq, ca, cn, cv⟩, hC⟩ : ∃ c, nbC ⟨xk, xa, xA, xc, xl⟩ = c := ⟨_, rfl⟩
            rw [hC] at HCm HPr hll HS
            unfold nV cV at *
            generalize ln ⟨cq, ca, cn, cv⟩ = L at *
            generalize wrT (List.replicate k 10) b n (l.map nbC) j = S at *
            clear hx hxr hok hsz hC
            by_cases hjn : j = n
            · have y1 : ((j : Int) == (n : Int)) = true := by simp; omega
              have y2 : ¬ 9223372036854775807 < S.length + b.length := by omega
              have y3 : ¬ 9223372036854775807 < S.length + b.length + 1 := by omega
              have y4 : ¬ 9223372036854775807 < S.length + b.length + 1 + L.length := by omega
              have y5 : ¬ 9223372036854775807 < S.length + b.length + 1 + L.length + 1 := by omega
              have hsum : S ++ b ++ [10] ++ L ++ [10] = wrT (List.replicate k 10) b n (l.map nbC) (j + 1) := by rw [HS.out, if_pos hjn]; simp
              have HSum := Lib.hid hsum
              have HJN := Lib.hid hjn
              clear hsum hjn
              go_wp2_with fail
              refine (HBad.out _).mono ?_
              rintro e w2 ⟨rfl, hb⟩
              have HI := FInv.call HI hb
              have x0 := (hb.cell (p := ⟨b1, o1 + j * 3, none⟩) (lt_of_cell x0)).trans x0
              have x1 := (hb.cell (p := ⟨b1, o1 + j * 3 + 1, none⟩) (lt_of_cell x1)).trans x1
              have x2 := (hb.cell (p := ⟨b1, o1 + j * 3 + 2, none⟩) (lt_of_cell x2)).trans x2
              clear hb
              go_wp2_with fail
              refine (HCm.out _ HI.out.2 (FInv.good HI)).mono ?_
              rintro e w4 ⟨rfl, hb⟩
              have HI := FInv.call HI hb
              clear hb
              go_wp2_with fail
              refine (HPr.out _ (FInv.good HI)).mono ?_
              rintro e w5 ⟨rfl, hb⟩
              have HI := FInv.call HI hb
              clear hb
              go_wp2_with fail
              go_roundw
              case rel => 
                refine ⟨j + 1, by omega, ?_, ?_, HI, HL2⟩
                · go_num
                · rw [← HSum.out, show (⟨#[10]⟩ : ByteArray) = ⟨[10].toArray⟩ from rfl]
                  simp only [ByteArray.mk_append_mk]
              case measure => simp [intOf]; omega
            · have y1 : ((j : Int) == (n : Int)) = false := by simp; omega
              have y4 : ¬ 9223372036854775807 < S.length + L.length := by omega
              have y5 : ¬ 9223372036854775807 < S.length + L.length + 1 := by omega
              have hsum : S ++ L ++ [10] = wrT (List.replicate k 10) b n (l.map nbC) (j + 1) := by rw [HS.out, if_neg hjn]; simp
              have HSum := Lib.hid hsum
              clear hsum
              go_wp2_with fail
              refine (HCm.out _ HI.out.2 (FInv.good HI)).mono ?_
              rintro e w2 ⟨rfl, hb⟩
              have HI := FInv.call HI hb
              clear hb
              go_wp2_with fail
              refine (HPr.out _ (FInv.good HI)).mono ?_
              rintro e w3 ⟨rfl, hb⟩
              have HI := FInv.call HI hb
              clear hb
              go_wp2_with fail
              go_roundw
              case rel => 
                refine ⟨j + 1, by omega, ?_, ?_, HI, HL2⟩
                · go_num
                · rw [← HSum.out, show (⟨#[10]⟩ : ByteArray) = ⟨[10].toArray⟩ from rfl]
                  simp only [ByteArray.mk_append_mk]
              case measure => simp [intOf]; omega
        · obtain rfl : j = l.length := by omega
          have hK := HKK.out
          have hl60 := HL.out
          rw [List.take_length] at hl60
          have hsay := wrT_says (k := k) (n := n) (b := b) (cs := l.map nbC) HBM.out (by omega) (by omega) (fun c hc => by
            obtain ⟨x, hx, rfl⟩ := List.mem_map.1 hc
            exact nbC_ok x (by have := hl60 x hx; omega))
          rw [hcl] at hsay
          generalize wrT (List.replicate k 10) b n (l.map nbC) l.length = S at *
          by_cases hnl : n = l.length
          · have y1 : ((n : Int) == (l.length : Int)) = true := by simp; omega
            have y2 : ¬ 9223372036854775807 < S.length + b.length := by omega
            rw [if_pos hnl] at hsay
            have HSay := Lib.hid hsay
            have HNL := Lib.hid hnl
            clear hsay hnl hl60
            go_wp2_with fail
            refine (HBad.out _).mono ?_
            rintro e w2 ⟨rfl, hb⟩
            have HI := FInv.call HI hb
            clear hb
            go_wp2_with fail
            rw [ByteArray.mk_append_mk]
            refine (parseAll_any (S ++ b) (by rw [List.length_append]; omega) _ (FInv.good HI)).mono ?_
            rintro e w3 ⟨v, rfl, o, hb⟩
            rw [HSay.out] at o ⊢
            have HI := FInv.call HI hb
            obtain ⟨A9, k9, rfl, _⟩ := own_slice o
            clear hb o
            go_wp2_with fail
            refine (works_any _ (FInv.good HI)).mono ?_
            rintro e w4 ⟨rfl, hb⟩
            have HI := FInv.call HI hb
            clear hb
            go_wp2_with fail
            go_ret
            exact ⟨rfl, HI.out.2⟩
          · have y1 : ((n : Int) == (l.length : Int)) = false := by simp; omega
            rw [if_neg hnl, List.append_nil] at hsay
            have HSay := Lib.hid hsay
            clear hsay hl60
            go_wp2_with fail
            refine (parseAll_any S (by omega) _ (FInv.good HI)).mono ?_
            rintro e w3 ⟨v, rfl, o, hb⟩
            rw [HSay.out] at o ⊢
            have HI := FInv.call HI hb
            obtain ⟨A9, k9, rfl, _⟩ := own_slice o
            clear hb o
            go_wp2_with fail
            refine (works_any _ (FInv.good HI)).mono ?_
            rintro e w4 ⟨rfl, hb⟩
            have HI := FInv.call HI hb
            clear hb
            go_wp2_with fail
            go_ret
            exact ⟨rfl, HI.out.2⟩

set_option maxRecDepth 20000 in
theorem commandWrong_walk (w : World) (A : Option Addr) (cap : Nat) (l : List Nb) (_ : l.length ≤ cap) (_ : cap ≤ maxLen) (hg : ∀ x ∈ l, Nb.Ok w x) (hrd : Rd w w.heap.size A (l.flatMap cellsNb)) (at_ : Int) (t0 : 0 ≤ at_) (t1 : at_ ≤ 255) (skip : Int) (s0 : 0 ≤ skip) (s1 : skip ≤ 255) (which : Int) (w0 : 0 ≤ which) (w1 : which ≤ 255) (hG : Good w) :
    Calls Tryz.prog 7 #[.slice A l.length cap, .int .u8 at_, .int .u8 skip, .int .u8 which] w fun e w' => e = .returned (.bool true) ∧ Below w.heap.size w w' := by
  by_cases hl : l.length ≤ 20
  · exact wrong_some A cap l hl at_ t0 t1 skip s0 s1 which w0 w1 w hg hrd hG
  · have HI : Hid (FInv w w) := Lib.hid ⟨hG, Below.refl _ _⟩
    have hl1 : (20 : Int) < (l.length : Int) := by omega
    clear hG hrd hg
    go_enter Tryz.func7, Tryz.ntmps7
    go_wp2_with fail
    refine (works_any _ (FInv.good HI)).mono ?_
    rintro e w2 ⟨rfl, b⟩
    have HI := FInv.call HI b
    clear b
    go_wp2_with fail
    go_ret
    exact ⟨rfl, HI.out.2⟩
end Go.Proofs.YtphpgbbjbncfoaaGreatDoor
