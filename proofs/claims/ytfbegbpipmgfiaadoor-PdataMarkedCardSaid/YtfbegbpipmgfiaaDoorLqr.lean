/- The row and the tied card of PdataMarked: the given statements, out of the law's walk. -/
import Derived.Test.YtfbegbpipmgfiaaDoorCards
import Derived.Test.YtfbegbpipmgfiaaDoorTie
import Derived.Test.YtfbegbpipmgfiaaDoorJ5
import Derived.WalkKit
import Derived.ProofKit
import Derived.OpenShut
import Derived.ShutString
import Derived.ChangeOld
import Derived.Below
import Derived.SizedLaws
import Derived.LaidMore
import Derived.Lay
import Derived.SevenTiedAt
import Derived.Stop.Joined
import Derived.Deep.DeepHandedRow
namespace Go.Proofs.YtfbegbpipmgfiaaDoor.pdataMarked
open Go Go.ChangeShapes Go.WideShapes Go.ChangeAt Go.RowKit Go.Proofs.YtfbegbpipmgfiaaDoor.Lift
open Go.ChangeMaps (open_string shut_string)
set_option linter.unusedVariables false
/-- An item of zeros. -/
def zeroItem : Value := .agg (#[.string ByteArray.empty, .string ByteArray.empty, .int .i32 0, .int .u8 0, .bool false, .int .u64 0, .int .u64 0, .string ByteArray.empty, .string ByteArray.empty, .string ByteArray.empty, .int .u8 0, .string ByteArray.empty, .slice none 0 0, .int .u8 0, .string ByteArray.empty, .bool false, .int .i64 0] ++ #[.float .f64 0, .slice none 0 0, .slice none 0 0, .int .u8 0, .int .i64 0, .float .f64 0, .int .u64 0, .float .f64 0, .bool false, .slice none 0 0, .slice none 0 0, .int .i32 0, .int .u64 0, .int .i32 0, .int .i32 0, .slice none 0 0, .slice none 0 0])
theorem own : ownKnob Tryd.prog.godebug = none := by kernel_rfl
theorem laidOut : laidOutB Tryd.prog = true := by kernel_rfl
theorem tys : tyOk Tryd.prog [30, 55, 53, 51, 85, 49, 50, 47, 61, 45, 34, 9, 4, 3, 2, 21, 42, 5, 44, 43, 48, 22] = true := by kernel_rfl
theorem laid_met (os : Os) : laidMetH Tryd.prog Rows.pdataMarkedRow.laid ((World.laidAll Tryd.prog os Rows.pdataMarkedRow.laid).forCall (fun _ _ => 0) ⟨#[], #[zeroItem, .float .f64 0], []⟩).memory := by
  rw [MakeChecks.laidMetH_plain _ _ _ (by kernel_rfl)]
  exact laidMet_laidAll _ (by kernel_rfl) (by kernel_rfl)
theorem reads (os : Os) {H : Type} (enc : TypeId × Value → H) : ∃ places, DataW.whole enc Tryd.prog ((World.laidAll Tryd.prog os Rows.pdataMarkedRow.laid).forCall (fun _ _ => 0) ⟨#[], #[zeroItem, .float .f64 0], []⟩).memory Tryd.f6.params.toList Rows.pdataMarkedSpec.vars false (#[zeroItem, .float .f64 0] : Array Value).toList 8 = some ([.agg [.lit (.string []), .lit (.string []), .lit (.int .i32 0), .lit (.int .u8 0), .lit (.bool false), .lit (.int .u64 0), .lit (.int .u64 0), .lit (.string []), .lit (.string []), .lit (.string []), .lit (.int .u8 0), .lit (.string []), .nil, .agg [.lit (.int .u8 0), .lit (.string []), .lit (.bool false), .lit (.int .i64 0), .lit (.float .f64 0), .nil, .nil], .agg [.lit (.int .u8 0), .lit (.int .i64 0), .lit (.float .f64 0), .lit (.int .u64 0), .lit (.float .f64 0), .lit (.bool false), .nil, .nil, .lit (.int .i32 0), .lit (.int .u64 0), .lit (.int .i32 0), .lit (.int .i32 0), .nil, .nil]], .lit (.float .f64 0)], [], places) := ⟨[], by kernel_rfl⟩
set_option maxRecDepth 100000 in
theorem lifted (os : Os) (started : os.Started) (H : Type) (enc : TypeId × Value → H) (F : Stop.Interp) :
    ReturnsInHanded {} Tryd.checked os 6 .any ((OpenSpec.ofChange Rows.pdataMarkedSpec).preRow enc Tryd.prog Tryd.f6 Rows.pdataMarkedRow.domain false Rows.pdataMarkedRow.laid) (((OpenSpec.ofChange Rows.pdataMarkedSpec).at F).post enc Tryd.prog Tryd.f6 false true false false) := by
  obtain ⟨places, hx⟩ := reads os enc
  refine returnsInHanded_of_row (C := Tryd.checked) (s := OpenSpec.ofChange Rows.pdataMarkedSpec) own started (by kernel_rfl) Tryd.func6
    ⟨World.laidAll Tryd.prog os Rows.pdataMarkedRow.laid, fun _ _ => 0, ⟨#[], #[zeroItem, .float .f64 0], []⟩, World.laidAll_os _ _ _, World.shaped_of_ZipB (by kernel_rfl) (by kernel_rfl), rfl, (Input.okWide_of_okWideB (by kernel_rfl)).2, OpenSpec.preRow_of_cond 8 hx (by kernel_rfl) (fun k hk => by cases hk) (by kernel_rfl) (laid_met os), by simp [Assume.holds]⟩ ?_
  intro W base args ds gs before hval0 hW _ _ hsz0 hL0 _ _
  have hL : laidMetH Tryd.prog Rows.pdataMarkedRow.laid W := hL0
  have hsz : (DataW.weightsEach Tryd.prog (Tryd.f6.params.toList ++ Rows.pdataMarkedSpec.plain.varTypes Tryd.prog) (ds ++ gs)).all (· ≤ reachBytes) = true := hsz0
  have hval : ∀ (j : Nat) t v, Tryd.f6.params[j]? = some t → args[j]? = some v → Value.okWide Tryd.prog W .any base t v := hval0
  have hW' := hW
  obtain ⟨p, q, hA0, hV, rfl, hfz, hnd⟩ := hW
  have hA : DataW.TrodAll enc Tryd.prog W 0 (fun _ => true) true Tryd.f6.params.toList args.toList ds p := hA0
  rw [Tryd.params6] at hA hval hsz
  obtain ⟨v0, vs0, d0, ds0, p0, q0, hargs, rfl, rfl, h0, r0⟩ := trodAll_cons hA
  obtain ⟨v1, vs1, d1, ds1, p1, q1, rfl, rfl, rfl, h1, r1⟩ := trodAll_cons r0
  obtain ⟨rfl, rfl, rfl⟩ := trodAll_nil r1
  obtain rfl : args = #[v0, v1] := by cases args; simp_all
  obtain ⟨rfl, rfl⟩ := trodVars_none hV
  have k0 := h0
  have lt0 : ∀ x ∈ p0, x.block < W.heap.size := by obtain ⟨m, hm⟩ := k0; exact DataW.trod_lt m _ _ _ hm
  obtain ⟨ds0, us0, rfl, ty0, rd0⟩ := arg_struct tys (by decide) Tryd.underlying55 (hval 0 55 v0 rfl rfl) h0 (fits_of hsz (j := 0) rfl rfl)
  have k1 := h1
  have lt1 : ∀ x ∈ p1, x.block < W.heap.size := by obtain ⟨m, hm⟩ := k1; exact DataW.trod_lt m _ _ _ hm
  obtain ⟨a1, rfl, w1⟩ := arg_float tys (by decide) Tryd.underlying44 (hval 1 44 v1 rfl rfl) h1 (fits_of hsz (j := 1) rfl rfl)
  clear hA0 hval0 hsz0 hsz
  refine (marked_walk (tabs_of hL) ty0 rd0 a1).mono fun e W' ⟨he, bel⟩ => ?_
  subst he
  exact ⟨_, rfl, _, _, _, [], _, [], hW', trodAll_mk1 (shut_bool Tryd.underlying4 _), (trodAll_cons_mk (Below.trod laidOut (by kernel_rfl) (of_decide_eq_true (by kernel_rfl)) k0 bel lt0) (trodAll_cons_mk (Below.trod laidOut (by kernel_rfl) (of_decide_eq_true (by kernel_rfl)) k1 bel lt1) trodAll_mk0)), rfl, bel.frame _, fun h => by cases h⟩
theorem said : Rows.PdataMarkedSaid :=
  OpenClaim.holds_of_cond 6 Tryd.f6 rfl rfl rfl rfl rfl rfl rfl ⟨rfl, rfl, rfl, rfl, rfl⟩ rfl rfl rfl rfl rfl (by kernel_rfl) Tryd.func6 (by kernel_rfl)
    (of_decide_eq_true (by kernel_rfl)) (by unfold Func.isWrapper; first | (rw [if_pos (by decide +kernel)]; kernel_rfl) | (rw [if_neg (by decide +kernel)]; exact ⟨rfl, rfl⟩))
    (fun os started H enc _ F => by rw [OpenClaim.pre_eq_preRow]; exact lifted os started H enc F)
/-- No parameter wants a stand-in. -/
theorem plain (f : FuncId) (fn : Func) (hf : Tryd.pinned.checked.prog.funcNamed "penstock/penstocklaw03.PdataMarked" = some f) (hfn : Tryd.pinned.checked.prog.funcs[f]? = some fn) :
    Rows.pdataMarkedCard.stood.looks = Tryd.pinned.checked.prog.looks [] ∧ ∀ (j : Nat) t, fn.params[j]? = some t → Tryd.pinned.checked.prog.wantsStandIn t = false := by
  obtain rfl : f = 6 := Option.some.inj ((show Tryd.prog.funcNamed "penstock/penstocklaw03.PdataMarked" = some 6 by kernel_rfl).symm.trans hf) |>.symm
  obtain rfl : fn = Tryd.f6 := (Option.some.inj (Tryd.func6.symm.trans hfn)).symm
  refine ⟨by kernel_rfl, fun j t ht => ?_⟩
  rw [Tryd.params6] at ht
  have hm : t ∈ [55, 44] := by simpa using Array.mem_of_getElem? ht
  have hall : ([55, 44].all fun u => !Tryd.prog.wantsStandIn u) = true := by kernel_rfl
  exact (show Tryd.prog.wantsStandIn t = false by simpa using List.all_eq_true.1 hall t hm)
theorem card : Rows.PdataMarkedCardSaid :=
  Claim7.holds_tied_plain_at .later [] _ _ _ _ said (fun _ h => by cases h) (by kernel_rfl) (fun _ h => by cases h) pdataMarked_row_tie rfl ⟨rfl, rfl⟩ (by kernel_rfl) rfl plain (by kernel_rfl)
#print axioms card
end Go.Proofs.YtfbegbpipmgfiaaDoor.pdataMarked
namespace Go.Proofs.YtfbegbpipmgfiaaDoor
/-- The card, under a short name, for the claim. -/
theorem pdataMarked_holds : Rows.PdataMarkedCardSaid := pdataMarked.card
end Go.Proofs.YtfbegbpipmgfiaaDoor
