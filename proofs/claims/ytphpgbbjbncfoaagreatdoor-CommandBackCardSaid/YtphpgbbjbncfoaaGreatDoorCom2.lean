/-
  LAYER 42: quoted strings in the program.
-/
import Derived.Test.YtphpgbbjbncfoaaGreatDoorCom1
import Derived.Deep.RegionLaw
import Derived.Laws.AppendOwn
namespace Go.Proofs.YtphpgbbjbncfoaaGreatDoor
open Go.ChangeShapes Go.WideShapes Go.ChangeAt Go.RowKit

/-- append to a row of the call's own, as one step of a region that draws. -/
theorem step_append_own {P : Program} {ops : Array Oper} {o : Oper} {a : Act} {w : World} {K : Act → World → Prop} {Q : Exit → Act → World → Prop} {E : Prop}
    (hg : o.guard = none) (s x : Operand) (t : TypeId) (hop : o.op = Op.call { callee := Callee.builtin Builtin.append, args := #[s, x], argTypes := #[t, t] })
    (base : Nat) (e : TypeId) (i : TypeInfo) (z : Value) (size bytes : Nat) (h1 : P.underlying t = some (.slice e)) (h2 : P.info? e = some i) (h3 : i.zero = some z) (h4 : i.size = size) (h5 : i.bytes = bytes) (h6 : z.cells.size = size) (h7 : 0 < size)
    (v : Value) (n : Nat) (xs : List Value) (hs : a.eval s = v) (hown : w.ownsRow base e size v n xs)
    (ad : Addr) (m c : Nat) (news : List Value) (hx : a.eval x = .slice (some ad) m c) (hn : news.length = m * size) (hc : ∀ j u, news[j]? = some u → w.cell? (ad.add j) = some u) (h1c : ∀ u ∈ news, u.oneCell' = true)
    (b1 : n + m ≤ maxLen) (b2 : (n + m) * bytes ≤ 140737488355328) (hbase : base ≤ w.heap.size)
    (hK : ∀ v' w', w'.ownsRow base e size v' (n + m) (xs ++ news) → w.grownBy w' v.ownBlock → K (a.put o.dst v') w') :
    if Region.wanted o (yielded ops a.tmps) = true then Oper.wp P o a w K Q else E := by
  have hw : Region.wanted o (yielded ops a.tmps) = true := by simp [Region.wanted, hg]
  rw [if_pos hw]
  obtain ⟨v', w', hrun, r1, r2, _⟩ := run_append_own (P := P) w base t o.type e i z size bytes h1 h2 h3 h4 h5 h6 h7 v n xs hown ad m c news hn hc h1c b1 b2 hbase
  unfold Oper.wp
  simp [execOp, hop, resolve, invoke, builtin, hs, hx, hrun, Result.andThen]
  exact hK v' w' r1 r2

theorem info_u8 : (Tryz.prog.info? 5).map (fun i => (i.zero, i.size, i.bytes)) = some (some (.int .u8 0), 1, 1) := by kernel_rfl

/-! ### The letter behind the backslash -/
def shV (c : UInt8) : UInt8 := if c = 10 then 110 else if c = 13 then 114 else if c = 9 then 116 else if c = 92 then 92 else 0
def shB (c : UInt8) : Bool := c = 10 || c = 13 || c = 9 || c = 92
theorem short_yes {c : UInt8} (h : shB c = true) (w : World) : Calls Tryz.prog 48 #[.int .u8 (c.toNat : Int)] w fun e w' => e = .returned (.tuple #[.int .u8 ((shV c).toNat : Int), .bool true]) ∧ w = w' := by
  have h : c = 10 ∨ c = 13 ∨ c = 9 ∨ c = 92 := by unfold shB at h; simpa [or_assoc] using h
  rcases h with rfl | rfl | rfl | rfl
  all_goals go_enter Tryz.func48, Tryz.ntmps48
  all_goals go_wp2
  all_goals go_ret2
  all_goals exact ⟨rfl, rfl⟩
theorem byte_ne {c d : UInt8} (h : c ≠ d) : ((c.toNat : Int) == (d.toNat : Int)) = false := by
  simp
  intro e
  exact h (UInt8.toNat_inj.1 (by omega))
theorem short_no {c : UInt8} (h : shB c = false) (w : World) : Calls Tryz.prog 48 #[.int .u8 (c.toNat : Int)] w fun e w' => e = .returned (.tuple #[.int .u8 0, .bool false]) ∧ w = w' := by
  have h : c ≠ 10 ∧ c ≠ 13 ∧ c ≠ 9 ∧ c ≠ 92 := by unfold shB at h; simpa [and_assoc] using h
  have h1 : ((c.toNat : Int) == 10) = false := byte_ne h.1
  have h2 : ((c.toNat : Int) == 13) = false := byte_ne h.2.1
  have h3 : ((c.toNat : Int) == 9) = false := byte_ne h.2.2.1
  have h4 : ((c.toNat : Int) == 92) = false := byte_ne h.2.2.2
  have k1 : ¬ (c.toNat : Int) = 10 := by simpa using h1
  have k2 : ¬ (c.toNat : Int) = 13 := by simpa using h2
  have k3 : ¬ (c.toNat : Int) = 9 := by simpa using h3
  have k4 : ¬ (c.toNat : Int) = 92 := by simpa using h4
  clear h
  go_enter Tryz.func48, Tryz.ntmps48
  go_wp2
  go_ret2
  exact ⟨rfl, rfl⟩
theorem q1_short {c : UInt8} (h : shB c = true) : Cmd.q1 c = [92, shV c] := by
  have h : c = 10 ∨ c = 13 ∨ c = 9 ∨ c = 92 := by unfold shB at h; simpa [or_assoc] using h
  rcases h with rfl | rfl | rfl | rfl <;> rfl
theorem q1_hex {c : UInt8} (h : shB c = false) (h2 : c.toNat < 32 ∨ 126 < c.toNat) : Cmd.q1 c = [92, 120, Cmd.hexd (c.toNat / 16), Cmd.hexd (c.toNat % 16)] := by
  have h : c ≠ 10 ∧ c ≠ 13 ∧ c ≠ 9 ∧ c ≠ 92 := by unfold shB at h; simpa [and_assoc] using h
  unfold Cmd.q1
  rw [if_neg h.1, if_neg h.2.1, if_neg h.2.2.1, if_neg h.2.2.2, if_pos h2]
theorem q1_one {c : UInt8} (h : shB c = false) (h2 : 32 ≤ c.toNat ∧ c.toNat ≤ 126) : Cmd.q1 c = [c] := by
  have h : c ≠ 10 ∧ c ≠ 13 ∧ c ≠ 9 ∧ c ≠ 92 := by unfold shB at h; simpa [and_assoc] using h
  unfold Cmd.q1
  rw [if_neg h.1, if_neg h.2.1, if_neg h.2.2.1, if_neg h.2.2.2, if_neg (by omega)]
theorem quote_take {l : List UInt8} {k : Nat} {c : UInt8} (h : l[k]? = some c) : Cmd.quote (l.take (k + 1)) = Cmd.quote (l.take k) ++ Cmd.q1 c := by
  rw [take_snoc h, Cmd.quote_snoc]
theorem and_15 (c : UInt8) : bits BinOp.and IntKind.u8 (c.toNat : Int) 15 = ((c.toNat % 16 : Nat) : Int) := by
  have key : ∀ n : Fin 256, bits BinOp.and IntKind.u8 (n.val : Int) 15 = ((n.val % 16 : Nat) : Int) := by decide +kernel
  exact key ⟨c.toNat, c.toNat_lt⟩
theorem hex_index (n : Nat) (h : n < 16) : ∀ g, (({ data := #[48, 49, 50, 51, 52, 53, 54, 55, 56, 57, 97, 98, 99, 100, 101, 102] } : ByteArray)[n]'g) = Cmd.hexd n := by
  have key : ∀ i : Fin 16, (({ data := #[48, 49, 50, 51, 52, 53, 54, 55, 56, 57, 97, 98, 99, 100, 101, 102] } : ByteArray)[i.val]'i.isLt) = Cmd.hexd i.val := by decide +kernel
  exact fun _ => key ⟨n, h⟩

set_option maxHeartbeats 1000000 in
set_option maxRecDepth 20000 in
/-- command.Quote. -/
theorem quote_any (l : List UInt8) (hl : l.length ≤ 1000000) (w : World) :
    Calls Tryz.prog 24 #[.string ⟨l.toArray⟩] w fun e w' => e = .returned (.string ⟨(Cmd.quote l).toArray⟩) ∧ Below w.heap.size w w' := by
  obtain ⟨i0, hi, hz⟩ := Option.map_eq_some_iff.1 info_u8
  simp only [Prod.mk.injEq] at hz
  obtain ⟨hz0, hz1, hz2⟩ := hz
  go_enter Tryz.func24, Tryz.ntmps24
  go_wp2_with fail
  go_loopw [3, 4] (fun u3 i wr => ∃ k : Nat, k ≤ l.length ∧ i = .int .i64 k ∧ Hid (wr.ownsRow w.heap.size 5 1 u3 (Cmd.quote (l.take k)).length (bytesV (Cmd.quote (l.take k)))) ∧ Hid (Below w.heap.size w wr)) (fun _ i _ => l.length - (intOf i).toNat)
  case atStart => exact ⟨0, Nat.zero_le _, rfl, Lib.hid (World.ownsRow_nil w _ _ _), Lib.hid (Below.refl _ _)⟩
  case round =>
    obtain ⟨k, hk, rfl, HO, HB⟩ := hrel
    have hown := HO.out
    have hsz := HB.out.size
    have hq := (Cmd.quote_len (l.take k)).2
    rw [List.length_take] at hq
    by_cases hlt : k < l.length
    · obtain ⟨c, hc⟩ : ∃ c, l[k]? = some c := ⟨_, List.getElem?_eq_getElem hlt⟩
      have hx : ∀ h, ((⟨l.toArray⟩ : ByteArray)[k]'h) = c := fun h => (List.getElem?_eq_some_iff.1 hc).2
      have HC := Lib.hid (quote_take hc)
      clear hc
      cases hs : shB c with
      | true =>
        have HS := Lib.hid (q1_short hs)
        have HY := Lib.hid hs
        clear hs
        go_wp2_with fail
        refine (short_yes HY.out _).mono ?_
        rintro e w2 ⟨rfl, rfl⟩
        go_wp2_with (at_builtin; refine wpList_append_own _ rfl _ _ 30 rfl w.heap.size 5 i0 (.int .u8 0) 1 1 Tryz.underlying30 hi hz0 hz1 hz2 rfl (by decide) _ _ _ rfl (hown.alloc _) ⟨wr.heap.size, 0, none⟩ 2 2 [.int .u8 92, .int .u8 ((shV c).toNat : Int)] rfl rfl ?d1 ?d2 ?d3 ?d4 ?d5 ?_)
        case d1 => exact news_all _ _ _
        case d2 => intro u hu; simp at hu; rcases hu with rfl | rfl <;> rfl
        case d3 => unfold maxLen; omega
        case d4 => omega
        case d5 => simp; omega
        intro v' w3 hown3 hg3 _
        have HB3 := Lib.hid ((below_new HB.out _).grown hg3 (by simp; omega) (fun g hg => (hown.lt g hg).1))
        have HO3 := Lib.hid hown3
        clear hown hown3 hg3
        go_wp2_with fail
        go_roundw
        case rel =>
          refine ⟨k + 1, by omega, by go_num, Lib.hid ?_, HB3⟩
          have := HO3.out
          rw [HC.out, HS.out, List.length_append, bytesV_append]
          exact this
        case measure => simp [intOf]; omega
      | false =>
        have a1 : (0 : Int) ≤ (c.toNat : Int) / 16 := by omega
        have a2 : (c.toNat : Int) / 16 < 16 := by have := c.toNat_lt; omega
        have a3 := and_15 c
        obtain ⟨d1, hd1⟩ : ∃ d, Cmd.hexd (c.toNat / 16) = d := ⟨_, rfl⟩
        obtain ⟨d2, hd2⟩ : ∃ d, Cmd.hexd (c.toNat % 16) = d := ⟨_, rfl⟩
        have a4 : ∀ g, (({ data := #[48, 49, 50, 51, 52, 53, 54, 55, 56, 57, 97, 98, 99, 100, 101, 102] } : ByteArray)[((c.toNat : Int) / 16).toNat]'g) = d1 := by
          rw [← hd1]
          have e : ((c.toNat : Int) / 16).toNat = c.toNat / 16 := by omega
          intro g
          have g2 : c.toNat / 16 < ({ data := #[48, 49, 50, 51, 52, 53, 54, 55, 56, 57, 97, 98, 99, 100, 101, 102] } : ByteArray).size := by rw [← e]; exact g
          have := hex_index (c.toNat / 16) (by omega) g2
          simp only [e]
          exact this
        have a5 : ∀ g, (({ data := #[48, 49, 50, 51, 52, 53, 54, 55, 56, 57, 97, 98, 99, 100, 101, 102] } : ByteArray)[((c.toNat : Int) % 16).toNat]'g) = d2 := by
          rw [← hd2]
          have e : ((c.toNat : Int) % 16).toNat = c.toNat % 16 := by omega
          intro g
          have g2 : c.toNat % 16 < ({ data := #[48, 49, 50, 51, 52, 53, 54, 55, 56, 57, 97, 98, 99, 100, 101, 102] } : ByteArray).size := by rw [← e]; exact g
          have := hex_index (c.toNat % 16) (by omega) g2
          simp only [e]
          exact this
        have a6 : (c.toNat : Int) % 16 < 16 := by omega
        have a7 : (0 : Int) ≤ (c.toNat : Int) % 16 := by omega
        have h32 : c.toNat < 32 ∨ 126 < c.toNat ∨ (32 ≤ c.toNat ∧ c.toNat ≤ 126) := by omega
        rcases h32 with h32 | h32 | h32
        · have HS := Lib.hid (q1_hex hs (by omega))
          have HY := Lib.hid hs
          rw [hd1, hd2] at HS
          clear hs hd1 hd2
          have b1 : (c.toNat : Int) < 32 := by omega
          clear h32
          go_wp2_with fail
          refine (short_no HY.out _).mono ?_
          rintro e w2 ⟨rfl, rfl⟩
          go_wp2_with fail
          go_region_law (refine step_append_own rfl (.tmp 39) (.tmp 46) 30 rfl w.heap.size 5 i0 (.int .u8 0) 1 1 Tryz.underlying30 hi hz0 hz1 hz2 rfl (by decide) _ _ _ rfl (own_below hown ((Below.refl wr.heap.size wr).drew.alloc (Nat.le_refl _) _)) ⟨wr.heap.size, 0, none⟩ 4 4 [.int .u8 92, .int .u8 120, .int .u8 (d1.toNat : Int), .int .u8 (d2.toNat : Int)] rfl rfl (news_all wr.drew _ _) (by intro u hu; simp at hu; rcases hu with rfl | rfl | rfl | rfl <;> rfl) (by unfold maxLen; omega) (by omega) (by simp; omega) ?_; intro v' w3 hown3 hg3)
          all_goals (
            have HB3 := Lib.hid ((HB.out.drew.alloc hsz _).grown hg3 (by simp; omega) (fun g hg => (hown.lt g hg).1))
            have HO3 := Lib.hid hown3
            clear hown hown3 hg3
            go_wp2_with fail
            go_roundw
            case rel =>
              refine ⟨k + 1, by omega, by go_num, Lib.hid ?_, HB3⟩
              have := HO3.out
              rw [HC.out, HS.out, List.length_append, bytesV_append]
              exact this
            case measure => simp [intOf]; omega)
        · have HS := Lib.hid (q1_hex hs (by omega))
          have HY := Lib.hid hs
          rw [hd1, hd2] at HS
          clear hs hd1 hd2
          have b1 : ¬ (c.toNat : Int) < 32 := by omega
          have b2 : (126 : Int) < (c.toNat : Int) := by omega
          clear h32
          go_wp2_with fail
          refine (short_no HY.out _).mono ?_
          rintro e w2 ⟨rfl, rfl⟩
          go_wp2_with fail
          go_region_law (refine step_append_own rfl (.tmp 39) (.tmp 46) 30 rfl w.heap.size 5 i0 (.int .u8 0) 1 1 Tryz.underlying30 hi hz0 hz1 hz2 rfl (by decide) _ _ _ rfl (own_below hown ((Below.refl wr.heap.size wr).drew.alloc (Nat.le_refl _) _)) ⟨wr.heap.size, 0, none⟩ 4 4 [.int .u8 92, .int .u8 120, .int .u8 (d1.toNat : Int), .int .u8 (d2.toNat : Int)] rfl rfl (news_all wr.drew _ _) (by intro u hu; simp at hu; rcases hu with rfl | rfl | rfl | rfl <;> rfl) (by unfold maxLen; omega) (by omega) (by simp; omega) ?_; intro v' w3 hown3 hg3)
          all_goals (
            have HB3 := Lib.hid ((HB.out.drew.alloc hsz _).grown hg3 (by simp; omega) (fun g hg => (hown.lt g hg).1))
            have HO3 := Lib.hid hown3
            clear hown hown3 hg3
            go_wp2_with fail
            go_roundw
            case rel =>
              refine ⟨k + 1, by omega, by go_num, Lib.hid ?_, HB3⟩
              have := HO3.out
              rw [HC.out, HS.out, List.length_append, bytesV_append]
              exact this
            case measure => simp [intOf]; omega)
        · have HS := Lib.hid (q1_one hs h32)
          have HY := Lib.hid hs
          clear hs hd1 hd2 a1 a2 a3 a4 a5 a6 a7
          have b1 : ¬ (c.toNat : Int) < 32 := by omega
          have b2 : ¬ (126 : Int) < (c.toNat : Int) := by omega
          clear h32
          go_wp2_with fail
          refine (short_no HY.out _).mono ?_
          rintro e w2 ⟨rfl, rfl⟩
          go_wp2_with (at_builtin; refine wpList_append_own _ rfl _ _ 30 rfl w.heap.size 5 i0 (.int .u8 0) 1 1 Tryz.underlying30 hi hz0 hz1 hz2 rfl (by decide) _ _ _ rfl (hown.alloc _) ⟨wr.heap.size, 0, none⟩ 1 1 [.int .u8 (c.toNat : Int)] rfl rfl ?d1 ?d2 ?d3 ?d4 ?d5 ?_)
          case d1 => exact news_all _ _ _
          case d2 => intro u hu; simp at hu; subst hu; rfl
          case d3 => unfold maxLen; omega
          case d4 => omega
          case d5 => simp; omega
          intro v' w3 hown3 hg3 _
          have HB3 := Lib.hid ((below_new HB.out _).grown hg3 (by simp; omega) (fun g hg => (hown.lt g hg).1))
          have HO3 := Lib.hid hown3
          clear hown hown3 hg3
          go_wp2_with fail
          go_roundw
          case rel =>
            refine ⟨k + 1, by omega, by go_num, Lib.hid ?_, HB3⟩
            have := HO3.out
            rw [HC.out, HS.out, List.length_append, bytesV_append]
            exact this
          case measure => simp [intOf]; omega
    · obtain rfl : k = l.length := by omega
      rw [List.take_length] at HO
      have hconv := run_own_string (P := Tryz.prog) wr 30 9 5 _ _ w.heap.size (Cmd.quote l) Tryz.underlying30 Tryz.underlying5 Tryz.underlying9 rfl HO.out
      clear hown hq
      go_wp2_with fail
      go_ret
      exact ⟨rfl, HB.out⟩
end Go.Proofs.YtphpgbbjbncfoaaGreatDoor
