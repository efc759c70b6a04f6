
/- The statement of TopArchivesProveTheirPast: for every input the law returns true, and the input reads as it did; the listed tables are tied to the program's text. -/
import Derived.Test.YtcfhaljkemaefaaGreatDoorJA
import Derived.SizedLaws
import Derived.Deep.DeepWitnessRowRef
namespace Go.Proofs.YtcfhaljkemaefaaGreatDoor
open Go.ChangeShapes Go.WideShapes Go.ChangeAt Go.RowKit Go.Deep Go.Joins
open Go.ChangeMaps (open_string)
set_option linter.unusedVariables false
set_option linter.unusedSimpArgs false

noncomputable def low_14 : Nat := (World.holding Tryz.prog default ⟨#[], #[], []⟩).heap.size
noncomputable def putErr (h : Array Obj) (g k : Nat) : Array Obj := h.modify g fun
  | .cells _ t frozen => .cells #[.iface 163 (.pointer (some ⟨k, 0, none⟩))] t frozen
  | o => o

/-- A world for the witness: the settled one, the listed tables laid. -/
noncomputable def lw_14 (os : Os) : World :=
  let w0 := World.holding Tryz.prog os ⟨#[.cells #[.string ⟨#[118, 97, 108, 117, 101, 32, 111, 117, 116, 32, 111, 102, 32, 114, 97, 110, 103, 101]⟩] 165, .cells #[.string ⟨#[105, 110, 118, 97, 108, 105, 100, 32, 115, 121, 110, 116, 97, 120]⟩] 165], #[], []⟩
  { w0 with heap := putTab (putErr (putErr (putTab (putTab (putTab (putTab (w0.heap) 6 Rows.laid_math_bits_deBruijn32tab) 7 Rows.laid_math_bits_deBruijn64tab) 1 Rows.laid_internal_strconv_uint64pow10) 3 Rows.laid_unicode_utf8_acceptRanges) 5 (low_14 + 0)) 4 (low_14 + 1)) 2 Rows.laid_unicode_utf8_first }
theorem lwm_14 (os : Os) : laidMet Tryz.prog Rows.topArchivesProveTheirPastRow.laid ((lw_14 os).forCall (fun _ _ => 0) ⟨#[], #[.slice Option.none 0 0, .int .i64 0, .int .i64 0], []⟩).memory :=
  laidMet_of_run' 8 (by kernel_rfl) (by kernel_rfl)
theorem reads_14 (os : Os) {H : Type} (enc : TypeId × Value → H) : ∃ places, DataW.whole enc Tryz.prog ((lw_14 os).forCall (fun _ _ => 0) ⟨#[], #[.slice Option.none 0 0, .int .i64 0, .int .i64 0], []⟩).memory Tryz.f3.params.toList Rows.topArchivesProveTheirPastSpec.vars false #[.slice Option.none 0 0, .int .i64 0, .int .i64 0].toList 8 = some ([.nil, .lit (.int .i64 0), .lit (.int .i64 0)], [], places) :=
  ⟨[], by kernel_rfl⟩

set_option maxRecDepth 100000 in
theorem contract_14 (H : Type) (enc : TypeId × Value → H) (W : World) (base : Nat) (args : Array Value) (ds gs : List (DataW H)) (before : List MemPlace)
    (hval0 : ∀ (j : Nat) t v, Tryz.f3.params[j]? = some t → args[j]? = some v → Value.okWide Tryz.prog W .any base t v)
    (hW : DataW.Whole enc Tryz.prog Tryz.f3.params.toList Rows.topArchivesProveTheirPastSpec.vars false W args.toList ds gs before) (hsz : (DataW.weightsEach Tryz.prog (Tryz.f3.params.toList ++ (OpenSpec.ofChange Rows.topArchivesProveTheirPastSpec).bare.plain.varTypes Tryz.prog) (ds ++ gs)).all (· ≤ reachBytes) = true) (hL : laidMetH Tryz.prog Rows.topArchivesProveTheirPastRow.laid W) (hsh : W.ShapedOpen Tryz.prog) :
    Calls Tryz.prog 3 args W fun e W' => ∃ v, e = .returned v ∧ Rows.topArchivesProveTheirPastSpec.post enc Tryz.prog Tryz.f3 false true false false W args v W' := by
  have hval : ∀ (j : Nat) t v, Tryz.f3.params[j]? = some t → args[j]? = some v → Value.okWide Tryz.prog W .any base t v := hval0
  have hW' := hW
  obtain ⟨p, q, hA0, hV, rfl, hfz, hnd⟩ := hW
  have hA : DataW.TrodAll enc Tryz.prog W 0 (fun _ => true) true Tryz.f3.params.toList args.toList ds p := hA0
  rw [Tryz.params3] at hA hval
  obtain ⟨v0, vs0, d0, ds0, p0, q0, hargs, rfl, rfl, h0, r0⟩ := trodAll_cons hA
  obtain ⟨v1, vs1, d1, ds1, p1, q1, rfl, rfl, rfl, h1, r1⟩ := trodAll_cons r0
  obtain ⟨v2, vs2, d2, ds2, p2, q2, rfl, rfl, rfl, h2, r2⟩ := trodAll_cons r1
  obtain ⟨rfl, rfl, rfl⟩ := trodAll_nil r2
  obtain rfl : args = #[v0, v1, v2] := by cases args; simp_all
  obtain ⟨rfl, rfl⟩ := trodVars_none hV
  have k0 := h0
  have lt0 : ∀ x ∈ p0, x.block < W.heap.size := by obtain ⟨m, hm⟩ := k0; exact DataW.trod_lt m _ _ _ hm
  obtain ⟨A0, c0, rs0, rfl, hR0, hC0, hz0⟩ := opened_recs (hval 0 22 v0 rfl rfl) h0
  have k1 := h1
  have lt1 : ∀ x ∈ p1, x.block < W.heap.size := by obtain ⟨m, hm⟩ := k1; exact DataW.trod_lt m _ _ _ hm
  obtain ⟨i1, rfl, rfl, rfl, wi1⟩ := open_int Tryz.underlying3 (hval 1 3 v1 rfl rfl) h1
  have bi1 := i64_wf wi1
  have k2 := h2
  have lt2 : ∀ x ∈ p2, x.block < W.heap.size := by obtain ⟨m, hm⟩ := k2; exact DataW.trod_lt m _ _ _ hm
  obtain ⟨i2, rfl, rfl, rfl, wi2⟩ := open_int Tryz.underlying3 (hval 2 3 v2 rfl rfl) h2
  have bi2 := i64_wf wi2
  have zr0 := recs_reach hsz (j := 0) rfl rfl hz0
  clear hA0 hval0
  refine (law_arch_i A0 c0 rs0 i1 i2 W (by omega) hC0 hR0 (by omega) (Tryz.laysM146.s1_3 W hsh) (zcell_of_laid (l := Rows.topArchivesProveTheirPastRow.laid) (by kernel_rfl) (.tail _ (.head _)) (by kernel_rfl) hL) (tabA_of_laid (l := Rows.topArchivesProveTheirPastRow.laid) (by kernel_rfl) (.tail _ (.tail _ (.head _))) (by kernel_rfl) hL)).mono fun e W' ⟨he, bel⟩ => ?_
  subst he
  exact ⟨_, rfl, _, _, _, [], _, [], hW', trodAll_mk1 (shut_bool Tryz.underlying4 _), (trodAll_cons_mk (Below.trod laidOut (by kernel_rfl) (of_decide_eq_true (by kernel_rfl)) k0 bel lt0) (trodAll_cons_mk (Below.trod laidOut (by kernel_rfl) (of_decide_eq_true (by kernel_rfl)) k1 bel lt1) (trodAll_cons_mk (Below.trod laidOut (by kernel_rfl) (of_decide_eq_true (by kernel_rfl)) k2 bel lt2) trodAll_mk0))), rfl, bel.frame _, fun h => by cases h⟩

set_option maxRecDepth 100000 in
theorem lifted_14 (os : Os) (started : os.Started) (H : Type) (enc : TypeId × Value → H) (F : Stop.Interp) :
    ReturnsInHanded {} Tryz.checked os 3 .any ((OpenSpec.ofChange Rows.topArchivesProveTheirPastSpec).preRow enc Tryz.prog Tryz.f3 Rows.topArchivesProveTheirPastRow.domain false Rows.topArchivesProveTheirPastRow.laid) (((OpenSpec.ofChange Rows.topArchivesProveTheirPastSpec).at F).post enc Tryz.prog Tryz.f3 false true false false) := by
  obtain ⟨places, hx⟩ := reads_14 os enc
  refine returnsInHanded_of_row (C := Tryz.checked) (s := OpenSpec.ofChange Rows.topArchivesProveTheirPastSpec) own started (by kernel_rfl) Tryz.func3
    (witness_row_atRef (enc := enc) (C := Tryz.checked) false (lw_14 os) #[.slice Option.none 0 0, .int .i64 0, .int .i64 0] rfl (by kernel_rfl) (by kernel_rfl) (by kernel_rfl)
      (OpenSpec.preRow_of_cond 8 hx (by kernel_rfl) (fun k hk => by cases hk) (by kernel_rfl) (lwm_14 os))) ?_
  intro W base args ds gs before hval hW _ _ hsz hL hsh _
  exact contract_14 H enc W base args ds gs before hval hW hsz hL hsh

theorem andT {a b : Bool} (h1 : a = true) (h2 : b = true) : (a && b) = true := by rw [h1, h2]; rfl
set_option maxHeartbeats 40000000 in
set_option maxRecDepth 100000 in
theorem closed_14 : joinedFacts Tryz.pinned.checked.prog 3 Tryz.f3 (OpenSpec.ofChange Rows.topArchivesProveTheirPastSpec).bare Rows.topArchivesProveTheirPastRow = true := by
  unfold joinedFacts
  repeat' (with_reducible apply andT)
  all_goals (as_aux_lemma => kernel_rfl)
theorem inst_14 : Tryz.f3.isInstance Tryz.pinned.checked.prog Rows.topArchivesProveTheirPastRow.origin Rows.topArchivesProveTheirPastRow.targs := of_decide_eq_true (by kernel_rfl)
theorem wrap_14 : Tryz.f3.isWrapper Tryz.pinned.checked.prog Rows.topArchivesProveTheirPastRow.wrapper Rows.topArchivesProveTheirPastRow.mainSum := by unfold Func.isWrapper; first | (rw [if_pos (by decide +kernel)]; kernel_rfl) | (rw [if_neg (by decide +kernel)]; exact ⟨rfl, rfl⟩)
theorem name_14 : Tryz.pinned.checked.prog.funcNamed Rows.topArchivesProveTheirPastRow.func = some 3 := by kernel_rfl
theorem said_14 : Rows.TopArchivesProveTheirPastSaid :=
  OpenClaim.holds_of_cond 3 Tryz.f3 rfl rfl rfl rfl rfl rfl rfl ⟨rfl, rfl, rfl, rfl, rfl⟩ rfl rfl rfl rfl rfl name_14 Tryz.func3 closed_14 inst_14 wrap_14
    (fun os started H enc _ F => by rw [OpenClaim.pre_eq_preRow]; exact lifted_14 os started H enc F)

set_option maxRecDepth 100000 in
/-- No parameter wants a stand-in; the program's own looks are off. -/
theorem plain_14 (f : FuncId) (fn : Func) (hf : Tryz.pinned.checked.prog.funcNamed Rows.topArchivesProveTheirPastRow.func = some f) (hfn : Tryz.pinned.checked.prog.funcs[f]? = some fn) :
    true = Tryz.pinned.checked.prog.looks [] ∧ ∀ (j : Nat) t, fn.params[j]? = some t → Tryz.pinned.checked.prog.wantsStandIn t = false := by
  obtain rfl : f = 3 := Option.some.inj ((show Tryz.prog.funcNamed Rows.topArchivesProveTheirPastRow.func = some 3 by kernel_rfl).symm.trans hf) |>.symm
  obtain rfl : fn = Tryz.f3 := (Option.some.inj (Tryz.func3.symm.trans hfn)).symm
  refine ⟨by kernel_rfl, fun j t ht => ?_⟩
  rw [Tryz.params3] at ht
  have hm := Array.mem_of_getElem? ht
  simp at hm
  rcases hm with rfl | rfl | rfl
  all_goals first | (exact (show Tryz.prog.wantsStandIn 3 = false by kernel_rfl)) | (exact (show Tryz.prog.wantsStandIn 9 = false by kernel_rfl)) | (exact (show Tryz.prog.wantsStandIn 5 = false by kernel_rfl)) | (exact (show Tryz.prog.wantsStandIn 22 = false by kernel_rfl))

theorem card_14 : Rows.TopArchivesProveTheirPastCardSaid :=
  Claim7.holds_tied_plain_at .later [] _ _ _ _ said_14 (fun _ h => by cases h) (by kernel_rfl) (fun _ h => by cases h) topArchivesProveTheirPast_row_tie rfl ⟨rfl, rfl⟩ (by kernel_rfl) rfl plain_14 (by kernel_rfl)
end Go.Proofs.YtcfhaljkemaefaaGreatDoor
