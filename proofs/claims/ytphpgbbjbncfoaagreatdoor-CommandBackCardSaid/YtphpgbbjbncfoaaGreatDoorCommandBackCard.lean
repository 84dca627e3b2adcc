/-
  THE STATEMENT CommandBack HOLDS: for every input the law returns true, and each argument reads afterwards as it read before. Conditions: the row's own (the listed variables lie as the program's text lays them: tied by the card).
-/
import Derived.Test.YtphpgbbjbncfoaaGreatDoorCards
import Derived.Test.YtphpgbbjbncfoaaGreatDoorTie
import Derived.Test.YtphpgbbjbncfoaaGreatDoorComBk
import Derived.Lib.SmallJoins
import Derived.ChangeMaps5
namespace Go.Proofs.YtphpgbbjbncfoaaGreatDoor.commandBack
open Go.ChangeShapes Go.WideShapes Go.ChangeAt Go.RowKit Go.Proofs.YtphpgbbjbncfoaaGreatDoor
set_option maxRecDepth 100000

theorem contract (H : Type) (enc : TypeId × Value → H) (W : World) (base : Nat) (args : Array Value) (ds gs : List (DataW H)) (before : List MemPlace)
    (hval0 : ∀ (j : Nat) t v, Tryz.f10.params[j]? = some t → args[j]? = some v → Value.okWide Tryz.prog W .any base t v)
    (hW : DataW.Whole enc Tryz.prog Tryz.f10.params.toList Rows.commandBackSpec.vars false W args.toList ds gs before) (hG : Good W) :
    Calls Tryz.prog 10 args W fun e W' => ∃ v, e = .returned v ∧ Rows.commandBackSpec.post enc Tryz.prog Tryz.f10 false true false false W args v W' := by
  have hW' := hW
  have hval : ∀ (j : Nat) t v, Tryz.f10.params[j]? = some t → args[j]? = some v → Value.okWide Tryz.prog W .any base t v := hval0
  obtain ⟨p, q, hA0, hV, rfl, _, _⟩ := hW
  have hA : DataW.TrodAll enc Tryz.prog W 0 (fun _ => true) true Tryz.f10.params.toList args.toList ds p := hA0
  rw [Tryz.params10] at hA hval
  obtain ⟨v0, vs0, d0, ds0, p0, q0, hargs, rfl, rfl, h0, r0⟩ := trodAll_cons hA
  obtain ⟨v1, vs1, d1, ds1, p1, q1, rfl, rfl, rfl, h1, r1⟩ := trodAll_cons r0
  obtain ⟨rfl, rfl, rfl⟩ := trodAll_nil r1
  obtain rfl : args = #[v0, v1] := by cases args; simp_all
  obtain ⟨rfl, rfl⟩ := trodVars_none hV
  clear hA0 hval0
  obtain ⟨c0a, c0b, c0c, y0a, y0b, y0c, m0, rfl, rfl, _, hy0a, hy0b, hy0c⟩ := Go.Joins.open_agg3 Tryz.underlying37 (by kernel_rfl) (show Tryz.prog.cellsOf 37 = 3 by kernel_rfl) (hval 0 37 v0 rfl rfl) h0
  obtain ⟨x0a, e0a, rfl, wx0a⟩ := DataW.trod_int Tryz.underlying5 hy0a
  obtain rfl : c0a = .int .u8 x0a := by simpa using e0a
  have bx0a : 0 ≤ x0a ∧ x0a ≤ 255 := by simpa [Lit.wf, IntKind.min, IntKind.max, IntKind.signed, IntKind.bits] using wx0a
  obtain ⟨x0b, e0b, rfl, wx0b⟩ := DataW.trod_int Tryz.underlying35 hy0b
  obtain rfl : c0b = .int .u32 x0b := by simpa using e0b
  have bx0b : 0 ≤ x0b ∧ x0b ≤ 4294967295 := by simpa [Lit.wf, IntKind.min, IntKind.max, IntKind.signed, IntKind.bits] using wx0b
  obtain ⟨A0c, cap0c, l0c, rfl, hle0c, hcap0c, hrd0c⟩ := bytes_cell hy0c
  obtain ⟨c1a, c1b, c1c, y1a, y1b, y1c, m1, rfl, rfl, _, hy1a, hy1b, hy1c⟩ := Go.Joins.open_agg3 Tryz.underlying37 (by kernel_rfl) (show Tryz.prog.cellsOf 37 = 3 by kernel_rfl) (hval 1 37 v1 rfl rfl) h1
  obtain ⟨x1a, e1a, rfl, wx1a⟩ := DataW.trod_int Tryz.underlying5 hy1a
  obtain rfl : c1a = .int .u8 x1a := by simpa using e1a
  have bx1a : 0 ≤ x1a ∧ x1a ≤ 255 := by simpa [Lit.wf, IntKind.min, IntKind.max, IntKind.signed, IntKind.bits] using wx1a
  obtain ⟨x1b, e1b, rfl, wx1b⟩ := DataW.trod_int Tryz.underlying35 hy1b
  obtain rfl : c1b = .int .u32 x1b := by simpa using e1b
  have bx1b : 0 ≤ x1b ∧ x1b ≤ 4294967295 := by simpa [Lit.wf, IntKind.min, IntKind.max, IntKind.signed, IntKind.bits] using wx1b
  obtain ⟨A1c, cap1c, l1c, rfl, hle1c, hcap1c, hrd1c⟩ := bytes_cell hy1c
  have walk : Calls Tryz.prog 10 #[.agg #[.int .u8 x0a, .int .u32 x0b, .slice A0c l0c.length cap0c], .agg #[.int .u8 x1a, .int .u32 x1b, .slice A1c l1c.length cap1c]] W fun e W' => e = .returned (.bool true) ∧ Below W.heap.size W W' := commandBack_walk (w := W) x0a bx0a.1 bx0a.2 x0b bx0b.1 bx0b.2 A0c cap0c l0c hle0c hcap0c hrd0c x1a bx1a.1 bx1a.2 x1b bx1b.1 bx1b.2 A1c cap1c l1c hle1c hcap1c hrd1c hG
  exact walk.mono fun e W' ⟨he, hb⟩ => ⟨_, he, post_law laidOut (by kernel_rfl) Tryz.underlying4 (by kernel_rfl) rfl rfl rfl rfl hW' hb⟩

theorem lifted (os : Os) (started : os.Started) (H : Type) (enc : TypeId × Value → H) (F : Stop.Interp) :
    ReturnsInHanded {} Tryz.checked os 10 .any ((OpenSpec.ofChange Rows.commandBackSpec).preRow enc Tryz.prog Tryz.f10 Rows.commandBackRow.domain false Rows.commandBackRow.laid) (((OpenSpec.ofChange Rows.commandBackSpec).at F).post enc Tryz.prog Tryz.f10 false true false false) := by
  refine returnsInHanded_of_row (C := Tryz.checked) (s := OpenSpec.ofChange Rows.commandBackSpec) own started (by kernel_rfl) Tryz.func10
    (row_witness (C := Tryz.checked) #[.agg #[.int .u8 0, .int .u32 0, .slice none 0 0], .agg #[.int .u8 0, .int .u32 0, .slice none 0 0]] (World.shaped_of_ZipB (by kernel_rfl) (by kernel_rfl)) (by kernel_rfl)
      (OpenSpec.preRow_of_cond 8 (x := ([.agg [.lit (.int .u8 0), .lit (.int .u32 0), .nil], .agg [.lit (.int .u8 0), .lit (.int .u32 0), .nil]], [], [])) (by kernel_rfl) (by kernel_rfl) (fun k hk => by cases hk) (by kernel_rfl) (laid_witness os _))) ?_
  intro W base args ds gs before hval hW _ _ _ hL hsh _
  exact contract H enc W base args ds gs before hval hW (good_of hL hsh)

theorem said : Rows.CommandBackSaid :=
  OpenClaim.holds_of_cond 10 Tryz.f10 rfl rfl rfl rfl rfl rfl rfl ⟨rfl, rfl, rfl, rfl, rfl⟩ rfl rfl rfl rfl rfl (by kernel_rfl) Tryz.func10 (by kernel_rfl)
    (of_decide_eq_true (by kernel_rfl)) (by unfold Func.isWrapper; first | (rw [if_pos (by decide +kernel)]; kernel_rfl) | (rw [if_neg (by decide +kernel)]; exact ⟨rfl, rfl⟩))
    (fun os started H enc _ F => by rw [OpenClaim.pre_eq_preRow]; exact lifted os started H enc F)

theorem plain (f : FuncId) (fn : Func) (hf : Tryz.pinned.checked.prog.funcNamed Rows.commandBackRow.func = some f) (hfn : Tryz.pinned.checked.prog.funcs[f]? = some fn) :
    true = Tryz.pinned.checked.prog.looks [] ∧ ∀ (j : Nat) t, fn.params[j]? = some t → Tryz.pinned.checked.prog.wantsStandIn t = false := by
  obtain rfl : f = 10 := Option.some.inj ((show Tryz.prog.funcNamed Rows.commandBackRow.func = some 10 by kernel_rfl).symm.trans hf) |>.symm
  obtain rfl : fn = Tryz.f10 := (Option.some.inj (Tryz.func10.symm.trans hfn)).symm
  refine ⟨by kernel_rfl, fun j t ht => ?_⟩
  rw [Tryz.params10] at ht
  have hm : t ∈ [37, 37] := by simpa using Array.mem_of_getElem? ht
  have hall : ([37, 37].all fun u => !Tryz.prog.wantsStandIn u) = true := by kernel_rfl
  exact (show Tryz.prog.wantsStandIn t = false by simpa using List.all_eq_true.1 hall t hm)

/-- THE CARD. -/
theorem card : Rows.CommandBackCardSaid :=
  Claim7.holds_tied_plain_at .later [] _ _ _ _ said (fun _ h => by cases h) (by kernel_rfl) (fun _ h => by cases h) commandBack_row_tie rfl ⟨rfl, rfl⟩ (by kernel_rfl) rfl plain (by kernel_rfl)
end Go.Proofs.YtphpgbbjbncfoaaGreatDoor.commandBack
