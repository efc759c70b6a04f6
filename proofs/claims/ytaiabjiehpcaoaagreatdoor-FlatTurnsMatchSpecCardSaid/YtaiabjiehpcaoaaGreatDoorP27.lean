
/- The statement of FlatTurnsMatchSpec: for every input the law returns true, and the input reads as it did; the listed tables are tied to the program's text. -/
import Derived.Test.YtaiabjiehpcaoaaGreatDoorJ10
import Derived.Test.YtaiabjiehpcaoaaGreatDoorB9
import Derived.SizedLaws
import Derived.Deep.DeepWitnessRowRef
namespace Go.Proofs.YtaiabjiehpcaoaaGreatDoor
open Go.ChangeShapes Go.WideShapes Go.ChangeAt Go.RowKit Go.Deep Go.Joins
open Go.ChangeMaps (open_string)
set_option linter.unusedVariables false
set_option linter.unusedSimpArgs false
noncomputable def low_27 : Nat := (World.holding Tryz.prog default ⟨#[], #[], []⟩).heap.size
noncomputable def putErr (h : Array Obj) (g k : Nat) : Array Obj := h.modify g fun
 | .cells _ t frozen => .cells #[.iface 278 (.pointer (some ⟨k, 0, none⟩))] t frozen
 | o => o
noncomputable def lw_27 (os : Os) : World :=
 let w0 := World.holding Tryz.prog os ⟨#[.cells #[.string ⟨#[118, 97, 108, 117, 101, 32, 111, 117, 116, 32, 111, 102, 32, 114, 97, 110, 103, 101]⟩] 280, .cells #[.string ⟨#[105, 110, 118, 97, 108, 105, 100, 32, 115, 121, 110, 116, 97, 120]⟩] 280], #[], []⟩
 { w0 with heap := putTab (putErr (putErr (putTab (putTab (putTab (putTab (w0.heap) 3 Rows.laid_math_bits_deBruijn32tab) 4 Rows.laid_math_bits_deBruijn64tab) 0 Rows.laid_internal_strconv_uint64pow10) 6 Rows.laid_unicode_utf8_acceptRanges) 8 (low_27 + 0)) 7 (low_27 + 1)) 5 Rows.laid_unicode_utf8_first }
theorem lwm_27 (os : Os) : laidMet Tryz.prog Rows.flatTurnsMatchSpecRow.laid ((lw_27 os).forCall (fun _ _ => 0) ⟨#[], #[.agg #[.int .u8 0, .int .u8 0, .slice Option.none 0 0, .string ⟨#[]⟩, .string ⟨#[]⟩, .string ⟨#[]⟩, .string ⟨#[]⟩], .agg #[.int .u8 0, .int .u8 0, .slice Option.none 0 0, .string ⟨#[]⟩, .string ⟨#[]⟩, .string ⟨#[]⟩, .string ⟨#[]⟩], .slice Option.none 0 0], []⟩).memory :=
 laidMet_of_run' 8 (by kernel_rfl) (by kernel_rfl)
theorem reads_27 (os : Os) {H : Type} (enc : TypeId × Value -> H) : ∃ places, DataW.whole enc Tryz.prog ((lw_27 os).forCall (fun _ _ => 0) ⟨#[], #[.agg #[.int .u8 0, .int .u8 0, .slice Option.none 0 0, .string ⟨#[]⟩, .string ⟨#[]⟩, .string ⟨#[]⟩, .string ⟨#[]⟩], .agg #[.int .u8 0, .int .u8 0, .slice Option.none 0 0, .string ⟨#[]⟩, .string ⟨#[]⟩, .string ⟨#[]⟩, .string ⟨#[]⟩], .slice Option.none 0 0], []⟩).memory Tryz.f3.params.toList Rows.flatTurnsMatchSpecSpec.vars false #[.agg #[.int .u8 0, .int .u8 0, .slice Option.none 0 0, .string ⟨#[]⟩, .string ⟨#[]⟩, .string ⟨#[]⟩, .string ⟨#[]⟩], .agg #[.int .u8 0, .int .u8 0, .slice Option.none 0 0, .string ⟨#[]⟩, .string ⟨#[]⟩, .string ⟨#[]⟩, .string ⟨#[]⟩], .slice Option.none 0 0].toList 8 = some ([.agg [.lit (.int .u8 0), .lit (.int .u8 0), .nil, .lit (.string []), .lit (.string []), .lit (.string []), .lit (.string [])], .agg [.lit (.int .u8 0), .lit (.int .u8 0), .nil, .lit (.string []), .lit (.string []), .lit (.string []), .lit (.string [])], .nil], [], places) :=
 ⟨[], by kernel_rfl⟩
set_option maxRecDepth 100000 in
theorem contract_27 (H : Type) (enc : TypeId × Value -> H) (W : World) (base : Nat) (args : Array Value) (ds gs : List (DataW H)) (before : List MemPlace)
  (hval0 : ∀ (j : Nat) t v, Tryz.f3.params[j]? = some t -> args[j]? = some v -> Value.okWide Tryz.prog W .any base t v)
  (hW : DataW.Whole enc Tryz.prog Tryz.f3.params.toList Rows.flatTurnsMatchSpecSpec.vars false W args.toList ds gs before) (hsz : (DataW.weightsEach Tryz.prog (Tryz.f3.params.toList ++ (OpenSpec.ofChange Rows.flatTurnsMatchSpecSpec).bare.plain.varTypes Tryz.prog) (ds ++ gs)).all (· <= reachBytes) = true) (hL : laidMetH Tryz.prog Rows.flatTurnsMatchSpecRow.laid W) (hsh : W.ShapedOpen Tryz.prog) :
  Calls Tryz.prog 3 args W fun e W' => ∃ v, e = .returned v /\ Rows.flatTurnsMatchSpecSpec.post enc Tryz.prog Tryz.f3 false true false false W args v W' := by
 have hval : ∀ (j : Nat) t v, Tryz.f3.params[j]? = some t -> args[j]? = some v -> Value.okWide Tryz.prog W .any base t v := hval0
 have hW' := hW
 obtain ⟨p, q, hA0, hV, rfl, hfz, hnd⟩ := hW
 have hA : DataW.TrodAll enc Tryz.prog W 0 (fun _ => true) true Tryz.f3.params.toList args.toList ds p := hA0
 rw [Tryz.params3] at hA hval
 obtain ⟨v0, vs0, d0, ds0, p0, q0, hargs, rfl, rfl, h0, r0⟩ := trodAll_cons hA
 obtain ⟨v1, vs1, d1, ds1, p1, q1, rfl, rfl, rfl, h1, r1⟩ := trodAll_cons r0
 obtain ⟨v2, vs2, d2, ds2, p2, q2, rfl, rfl, rfl, h2, r2⟩ := trodAll_cons r1
 obtain ⟨rfl, rfl, rfl⟩ := trodAll_nil r2
 obtain rfl : args = #[v0, v1, v2] := by cases args; simp_all
 obtain ⟨rfl, rfl⟩ := trodVars_none hV
 have k0 := h0
 have lt0 : ∀ x ∈ p0, x.block < W.heap.size := by obtain ⟨m, hm⟩ := k0; exact DataW.trod_lt m _ _ _ hm
 obtain ⟨f0, A0, c0, FA0, FC0, rfl, hK0, hl0, hc0, hm0, hq0⟩ := opened_fmt (hval 0 24 v0 rfl rfl) h0
 have k1 := h1
 have lt1 : ∀ x ∈ p1, x.block < W.heap.size := by obtain ⟨m, hm⟩ := k1; exact DataW.trod_lt m _ _ _ hm
 obtain ⟨f1, A1, c1, FA1, FC1, rfl, hK1, hl1, hc1, hm1, hq1⟩ := opened_fmt (hval 1 24 v1 rfl rfl) h1
 have k2 := h2
 have lt2 : ∀ x ∈ p2, x.block < W.heap.size := by obtain ⟨m, hm⟩ := k2; exact DataW.trod_lt m _ _ _ hm
 obtain ⟨A2, c2, rs2, RA2, RC2, rfl, hR2⟩ := opened_flatrows (hval 2 25 v2 rfl rfl) h2
 clear hA0 hval0
 refine (law_turns_i f0 f1 A0 A1 c0 c1 FA0 FA1 FC0 FC1 A2 c2 rs2 RA2 RC2 W hK0 hK1 hR2 hl0 hl1 hm0 hq0 hm1 hq1 (tab_of_laid (l := Rows.flatTurnsMatchSpecRow.laid) (by kernel_rfl) (.tail _ (.tail _ (.head _))) (by kernel_rfl) hL) (Tryz.laysM146.s1_3 W hsh)).mono fun e W' ⟨he, bel⟩ => ?_
 subst he
 exact ⟨_, rfl, _, _, _, [], _, [], hW', trodAll_mk1 (shut_bool Tryz.underlying4 _), (trodAll_cons_mk (Below.trod laidOut (by kernel_rfl) (of_decide_eq_true (by kernel_rfl)) k0 bel lt0) (trodAll_cons_mk (Below.trod laidOut (by kernel_rfl) (of_decide_eq_true (by kernel_rfl)) k1 bel lt1) (trodAll_cons_mk (Below.trod laidOut (by kernel_rfl) (of_decide_eq_true (by kernel_rfl)) k2 bel lt2) trodAll_mk0))), rfl, bel.frame _, fun h => by cases h⟩
set_option maxRecDepth 100000 in
theorem lifted_27 (os : Os) (started : os.Started) (H : Type) (enc : TypeId × Value -> H) (F : Stop.Interp) :
  ReturnsInHanded {} Tryz.checked os 3 .any ((OpenSpec.ofChange Rows.flatTurnsMatchSpecSpec).preRow enc Tryz.prog Tryz.f3 Rows.flatTurnsMatchSpecRow.domain false Rows.flatTurnsMatchSpecRow.laid) (((OpenSpec.ofChange Rows.flatTurnsMatchSpecSpec).at F).post enc Tryz.prog Tryz.f3 false true false false) := by
 obtain ⟨places, hx⟩ := reads_27 os enc
 refine returnsInHanded_of_row (C := Tryz.checked) (s := OpenSpec.ofChange Rows.flatTurnsMatchSpecSpec) own started (by kernel_rfl) Tryz.func3
  (witness_row_atRef (enc := enc) (C := Tryz.checked) false (lw_27 os) #[.agg #[.int .u8 0, .int .u8 0, .slice Option.none 0 0, .string ⟨#[]⟩, .string ⟨#[]⟩, .string ⟨#[]⟩, .string ⟨#[]⟩], .agg #[.int .u8 0, .int .u8 0, .slice Option.none 0 0, .string ⟨#[]⟩, .string ⟨#[]⟩, .string ⟨#[]⟩, .string ⟨#[]⟩], .slice Option.none 0 0] rfl (by kernel_rfl) (by kernel_rfl) (by kernel_rfl)
   (OpenSpec.preRow_of_cond 8 hx (by kernel_rfl) (fun k hk => by cases hk) (by kernel_rfl) (lwm_27 os))) ?_
 intro W base args ds gs before hval hW _ _ hsz hL hsh _
 exact contract_27 H enc W base args ds gs before hval hW hsz hL hsh
theorem andT {a b : Bool} (h1 : a = true) (h2 : b = true) : (a && b) = true := by rw [h1, h2]; rfl
set_option maxHeartbeats 40000000 in
set_option maxRecDepth 100000 in
theorem closed_27 : joinedFacts Tryz.pinned.checked.prog 3 Tryz.f3 (OpenSpec.ofChange Rows.flatTurnsMatchSpecSpec).bare Rows.flatTurnsMatchSpecRow = true := by
 unfold joinedFacts
 repeat' (with_reducible apply andT)
 all_goals (as_aux_lemma => kernel_rfl)
theorem inst_27 : Tryz.f3.isInstance Tryz.pinned.checked.prog Rows.flatTurnsMatchSpecRow.origin Rows.flatTurnsMatchSpecRow.targs := of_decide_eq_true (by kernel_rfl)
theorem wrap_27 : Tryz.f3.isWrapper Tryz.pinned.checked.prog Rows.flatTurnsMatchSpecRow.wrapper Rows.flatTurnsMatchSpecRow.mainSum := by unfold Func.isWrapper; first | (rw [if_pos (by decide +kernel)]; kernel_rfl) | (rw [if_neg (by decide +kernel)]; exact ⟨rfl, rfl⟩)
theorem name_27 : Tryz.pinned.checked.prog.funcNamed Rows.flatTurnsMatchSpecRow.func = some 3 := by kernel_rfl
theorem said_27 : Rows.FlatTurnsMatchSpecSaid :=
 OpenClaim.holds_of_cond 3 Tryz.f3 rfl rfl rfl rfl rfl rfl rfl ⟨rfl, rfl, rfl, rfl, rfl⟩ rfl rfl rfl rfl rfl name_27 Tryz.func3 closed_27 inst_27 wrap_27
  (fun os started H enc _ F => by rw [OpenClaim.pre_eq_preRow]; exact lifted_27 os started H enc F)
set_option maxRecDepth 100000 in
theorem plain_27 (f : FuncId) (fn : Func) (hf : Tryz.pinned.checked.prog.funcNamed Rows.flatTurnsMatchSpecRow.func = some f) (hfn : Tryz.pinned.checked.prog.funcs[f]? = some fn) :
  true = Tryz.pinned.checked.prog.looks [] /\ ∀ (j : Nat) t, fn.params[j]? = some t -> Tryz.pinned.checked.prog.wantsStandIn t = false := by
 obtain rfl : f = 3 := Option.some.inj ((show Tryz.prog.funcNamed Rows.flatTurnsMatchSpecRow.func = some 3 by kernel_rfl).symm.trans hf) |>.symm
 obtain rfl : fn = Tryz.f3 := (Option.some.inj (Tryz.func3.symm.trans hfn)).symm
 refine ⟨by kernel_rfl, fun j t ht => ?_⟩
 rw [Tryz.params3] at ht
 have hm := Array.mem_of_getElem? ht
 simp at hm
 rcases hm with rfl | rfl | rfl
 all_goals first | (exact (show Tryz.prog.wantsStandIn 3 = false by kernel_rfl)) | (exact (show Tryz.prog.wantsStandIn 9 = false by kernel_rfl)) | (exact (show Tryz.prog.wantsStandIn 5 = false by kernel_rfl)) | (exact (show Tryz.prog.wantsStandIn 24 = false by kernel_rfl))
theorem card_27 : Rows.FlatTurnsMatchSpecCardSaid :=
 Claim7.holds_tied_plain_at .later [] _ _ _ _ said_27 (fun _ h => by cases h) (by kernel_rfl) (fun _ h => by cases h) flatTurnsMatchSpec_row_tie rfl ⟨rfl, rfl⟩ (by kernel_rfl) rfl plain_27 (by kernel_rfl)
end Go.Proofs.YtaiabjiehpcaoaaGreatDoor
