
/- The statement of FlatSortsKeepRows: for every input the law returns true, and the input reads as it did; the listed tables are tied to the program's text. -/
import Derived.Test.YtbnjejenejoibaaGreatDoorJ7
import Derived.Test.YtbnjejenejoibaaGreatDoorJ11
import Derived.Test.YtbnjejenejoibaaGreatDoorSQZ
import Derived.SizedLaws
import Derived.Deep.DeepWitnessRowRef
namespace Go.Proofs.YtbnjejenejoibaaGreatDoor
open Go.ChangeShapes Go.WideShapes Go.ChangeAt Go.RowKit Go.Deep Go.Joins
open Go.ChangeMaps (open_string)
set_option linter.unusedVariables false
set_option linter.unusedSimpArgs false
noncomputable def low_35 : Nat := (World.holding Tryz.prog default ⟨#[], #[], []⟩).heap.size
noncomputable def putErr (h : Array Obj) (g k : Nat) : Array Obj := h.modify g fun
 | .cells _ t frozen => .cells #[.iface 305 (.pointer (some ⟨k, 0, none⟩))] t frozen
 | o => o
theorem sized_size {s : ByteArray} (h : s.data.toList.length <= reachBytes) : s.size <= 140737488355328 := by
 have := reachBytes_lt
 have e : s.data.toList.length = s.size := by simp
 omega
noncomputable def lw_35 (os : Os) : World :=
 let w0 := World.holding Tryz.prog os ⟨#[.cells #[.string ⟨#[118, 97, 108, 117, 101, 32, 111, 117, 116, 32, 111, 102, 32, 114, 97, 110, 103, 101]⟩] 307, .cells #[.string ⟨#[105, 110, 118, 97, 108, 105, 100, 32, 115, 121, 110, 116, 97, 120]⟩] 307], #[], []⟩
 { w0 with heap := putTab (putErr (putErr (putTab (putTab (putTab (putTab (w0.heap) 7 Rows.laid_math_bits_deBruijn32tab) 8 Rows.laid_math_bits_deBruijn64tab) 6 Rows.laid_internal_strconv_uint64pow10) 3 Rows.laid_unicode_utf8_acceptRanges) 5 (low_35 + 0)) 4 (low_35 + 1)) 2 Rows.laid_unicode_utf8_first }
theorem lwm_35 (os : Os) : laidMet Tryz.prog Rows.flatSortsKeepRowsRow.laid ((lw_35 os).forCall (fun _ _ => 0) ⟨#[], #[.agg #[.int .u8 0, .int .u8 0, .slice Option.none 0 0, .string ⟨#[]⟩, .string ⟨#[]⟩, .string ⟨#[]⟩, .string ⟨#[]⟩], .slice Option.none 0 0, .string ⟨#[]⟩, .string ⟨#[]⟩], []⟩).memory :=
 laidMet_of_run' 8 (by kernel_rfl) (by kernel_rfl)
theorem reads_35 (os : Os) {H : Type} (enc : TypeId × Value -> H) : ∃ places, DataW.whole enc Tryz.prog ((lw_35 os).forCall (fun _ _ => 0) ⟨#[], #[.agg #[.int .u8 0, .int .u8 0, .slice Option.none 0 0, .string ⟨#[]⟩, .string ⟨#[]⟩, .string ⟨#[]⟩, .string ⟨#[]⟩], .slice Option.none 0 0, .string ⟨#[]⟩, .string ⟨#[]⟩], []⟩).memory Tryz.f3.params.toList Rows.flatSortsKeepRowsSpec.vars false #[.agg #[.int .u8 0, .int .u8 0, .slice Option.none 0 0, .string ⟨#[]⟩, .string ⟨#[]⟩, .string ⟨#[]⟩, .string ⟨#[]⟩], .slice Option.none 0 0, .string ⟨#[]⟩, .string ⟨#[]⟩].toList 8 = some ([.agg [.lit (.int .u8 0), .lit (.int .u8 0), .nil, .lit (.string []), .lit (.string []), .lit (.string []), .lit (.string [])], .nil, .lit (.string []), .lit (.string [])], [], places) :=
 ⟨[], by kernel_rfl⟩
set_option maxRecDepth 100000 in
theorem contract_35 (H : Type) (enc : TypeId × Value -> H) (W : World) (base : Nat) (args : Array Value) (ds gs : List (DataW H)) (before : List MemPlace)
  (hval0 : ∀ (j : Nat) t v, Tryz.f3.params[j]? = some t -> args[j]? = some v -> Value.okWide Tryz.prog W .any base t v)
  (hW : DataW.Whole enc Tryz.prog Tryz.f3.params.toList Rows.flatSortsKeepRowsSpec.vars false W args.toList ds gs before) (hsz : (DataW.weightsEach Tryz.prog (Tryz.f3.params.toList ++ (OpenSpec.ofChange Rows.flatSortsKeepRowsSpec).bare.plain.varTypes Tryz.prog) (ds ++ gs)).all (· <= reachBytes) = true) (hL : laidMetH Tryz.prog Rows.flatSortsKeepRowsRow.laid W) (hsh : W.ShapedOpen Tryz.prog) :
  Calls Tryz.prog 3 args W fun e W' => ∃ v, e = .returned v /\ Rows.flatSortsKeepRowsSpec.post enc Tryz.prog Tryz.f3 false true false false W args v W' := by
 have hval : ∀ (j : Nat) t v, Tryz.f3.params[j]? = some t -> args[j]? = some v -> Value.okWide Tryz.prog W .any base t v := hval0
 have hW' := hW
 obtain ⟨p, q, hA0, hV, rfl, hfz, hnd⟩ := hW
 have hA : DataW.TrodAll enc Tryz.prog W 0 (fun _ => true) true Tryz.f3.params.toList args.toList ds p := hA0
 rw [Tryz.params3] at hA hval
 obtain ⟨v0, vs0, d0, ds0, p0, q0, hargs, rfl, rfl, h0, r0⟩ := trodAll_cons hA
 obtain ⟨v1, vs1, d1, ds1, p1, q1, rfl, rfl, rfl, h1, r1⟩ := trodAll_cons r0
 obtain ⟨v2, vs2, d2, ds2, p2, q2, rfl, rfl, rfl, h2, r2⟩ := trodAll_cons r1
 obtain ⟨v3, vs3, d3, ds3, p3, q3, rfl, rfl, rfl, h3, r3⟩ := trodAll_cons r2
 obtain ⟨rfl, rfl, rfl⟩ := trodAll_nil r3
 obtain rfl : args = #[v0, v1, v2, v3] := by cases args; simp_all
 obtain ⟨rfl, rfl⟩ := trodVars_none hV
 have k0 := h0
 have lt0 : ∀ x ∈ p0, x.block < W.heap.size := by obtain ⟨m, hm⟩ := k0; exact DataW.trod_lt m _ _ _ hm
 obtain ⟨f0, A0, c0, FA0, FC0, rfl, hK0, hl0, hc0, hm0, hq0⟩ := opened_fmt (hval 0 24 v0 rfl rfl) h0
 have k1 := h1
 have lt1 : ∀ x ∈ p1, x.block < W.heap.size := by obtain ⟨m, hm⟩ := k1; exact DataW.trod_lt m _ _ _ hm
 obtain ⟨A1, c1, rs1, RA1, RC1, rfl, hR1, hC1, hM1, hz1⟩ := opened_flatrowsZ (hval 1 25 v1 rfl rfl) h1
 have k2 := h2
 have lt2 : ∀ x ∈ p2, x.block < W.heap.size := by obtain ⟨m, hm⟩ := k2; exact DataW.trod_lt m _ _ _ hm
 obtain ⟨s2, rfl, rfl, rfl, hs2⟩ := open_string Tryz.underlying9 (hval 2 9 v2 rfl rfl) h2
 unfold maxLen at hs2
 have k3 := h3
 have lt3 : ∀ x ∈ p3, x.block < W.heap.size := by obtain ⟨m, hm⟩ := k3; exact DataW.trod_lt m _ _ _ hm
 obtain ⟨s3, rfl, rfl, rfl, hs3⟩ := open_string Tryz.underlying9 (hval 3 9 v3 rfl rfl) h3
 unfold maxLen at hs3
 have zr1 := rows_reach hsz (j := 1) rfl rfl hz1
 have zs2 := sized_size (s := s2) (sized_string hsz (j := 2) rfl rfl)
 have zs3 := sized_size (s := s3) (sized_string hsz (j := 3) rfl rfl)
 clear hA0 hval0
 refine (law_keep_i f0 A0 c0 FA0 FC0 A1 c1 rs1 RA1 RC1 s2 s3 W hK0 hR1 hC1 hM1 zr1 hl0 hm0 hq0 (tab_of_laid (l := Rows.flatSortsKeepRowsRow.laid) (by kernel_rfl) (.tail _ (.tail _ (.head _))) (by kernel_rfl) hL) (Tryz.laysM155.s1_3 W hsh)).mono fun e W' ⟨he, bel⟩ => ?_
 subst he
 exact ⟨_, rfl, _, _, _, [], _, [], hW', trodAll_mk1 (shut_bool Tryz.underlying4 _), (trodAll_cons_mk (Below.trod laidOut (by kernel_rfl) (of_decide_eq_true (by kernel_rfl)) k0 bel lt0) (trodAll_cons_mk (Below.trod laidOut (by kernel_rfl) (of_decide_eq_true (by kernel_rfl)) k1 bel lt1) (trodAll_cons_mk (Below.trod laidOut (by kernel_rfl) (of_decide_eq_true (by kernel_rfl)) k2 bel lt2) (trodAll_cons_mk (Below.trod laidOut (by kernel_rfl) (of_decide_eq_true (by kernel_rfl)) k3 bel lt3) trodAll_mk0)))), rfl, bel.frame _, fun h => by cases h⟩
set_option maxRecDepth 100000 in
theorem lifted_35 (os : Os) (started : os.Started) (H : Type) (enc : TypeId × Value -> H) (F : Stop.Interp) :
  ReturnsInHanded {} Tryz.checked os 3 .any ((OpenSpec.ofChange Rows.flatSortsKeepRowsSpec).preRow enc Tryz.prog Tryz.f3 Rows.flatSortsKeepRowsRow.domain false Rows.flatSortsKeepRowsRow.laid) (((OpenSpec.ofChange Rows.flatSortsKeepRowsSpec).at F).post enc Tryz.prog Tryz.f3 false true false false) := by
 obtain ⟨places, hx⟩ := reads_35 os enc
 refine returnsInHanded_of_row (C := Tryz.checked) (s := OpenSpec.ofChange Rows.flatSortsKeepRowsSpec) own started (by kernel_rfl) Tryz.func3
  (witness_row_atRef (enc := enc) (C := Tryz.checked) false (lw_35 os) #[.agg #[.int .u8 0, .int .u8 0, .slice Option.none 0 0, .string ⟨#[]⟩, .string ⟨#[]⟩, .string ⟨#[]⟩, .string ⟨#[]⟩], .slice Option.none 0 0, .string ⟨#[]⟩, .string ⟨#[]⟩] rfl (by kernel_rfl) (by kernel_rfl) (by kernel_rfl)
   (OpenSpec.preRow_of_cond 8 hx (by kernel_rfl) (fun k hk => by cases hk) (by kernel_rfl) (lwm_35 os))) ?_
 intro W base args ds gs before hval hW _ _ hsz hL hsh _
 exact contract_35 H enc W base args ds gs before hval hW hsz hL hsh
theorem andT {a b : Bool} (h1 : a = true) (h2 : b = true) : (a && b) = true := by rw [h1, h2]; rfl
set_option maxHeartbeats 40000000 in
set_option maxRecDepth 100000 in
theorem closed_35 : joinedFacts Tryz.pinned.checked.prog 3 Tryz.f3 (OpenSpec.ofChange Rows.flatSortsKeepRowsSpec).bare Rows.flatSortsKeepRowsRow = true := by
 unfold joinedFacts
 repeat' (with_reducible apply andT)
 all_goals (as_aux_lemma => kernel_rfl)
theorem inst_35 : Tryz.f3.isInstance Tryz.pinned.checked.prog Rows.flatSortsKeepRowsRow.origin Rows.flatSortsKeepRowsRow.targs := of_decide_eq_true (by kernel_rfl)
theorem wrap_35 : Tryz.f3.isWrapper Tryz.pinned.checked.prog Rows.flatSortsKeepRowsRow.wrapper Rows.flatSortsKeepRowsRow.mainSum := by unfold Func.isWrapper; first | (rw [if_pos (by decide +kernel)]; kernel_rfl) | (rw [if_neg (by decide +kernel)]; exact ⟨rfl, rfl⟩)
theorem name_35 : Tryz.pinned.checked.prog.funcNamed Rows.flatSortsKeepRowsRow.func = some 3 := by kernel_rfl
theorem said_35 : Rows.FlatSortsKeepRowsSaid :=
 OpenClaim.holds_of_cond 3 Tryz.f3 rfl rfl rfl rfl rfl rfl rfl ⟨rfl, rfl, rfl, rfl, rfl⟩ rfl rfl rfl rfl rfl name_35 Tryz.func3 closed_35 inst_35 wrap_35
  (fun os started H enc _ F => by rw [OpenClaim.pre_eq_preRow]; exact lifted_35 os started H enc F)
set_option maxRecDepth 100000 in
theorem plain_35 (f : FuncId) (fn : Func) (hf : Tryz.pinned.checked.prog.funcNamed Rows.flatSortsKeepRowsRow.func = some f) (hfn : Tryz.pinned.checked.prog.funcs[f]? = some fn) :
  true = Tryz.pinned.checked.prog.looks [] /\ ∀ (j : Nat) t, fn.params[j]? = some t -> Tryz.pinned.checked.prog.wantsStandIn t = false := by
 obtain rfl : f = 3 := Option.some.inj ((show Tryz.prog.funcNamed Rows.flatSortsKeepRowsRow.func = some 3 by kernel_rfl).symm.trans hf) |>.symm
 obtain rfl : fn = Tryz.f3 := (Option.some.inj (Tryz.func3.symm.trans hfn)).symm
 refine ⟨by kernel_rfl, fun j t ht => ?_⟩
 rw [Tryz.params3] at ht
 have hm := Array.mem_of_getElem? ht
 simp at hm
 rcases hm with rfl | rfl | rfl | rfl
 all_goals first | (exact (show Tryz.prog.wantsStandIn 3 = false by kernel_rfl)) | (exact (show Tryz.prog.wantsStandIn 9 = false by kernel_rfl)) | (exact (show Tryz.prog.wantsStandIn 5 = false by kernel_rfl)) | (exact (show Tryz.prog.wantsStandIn 24 = false by kernel_rfl))
theorem card_35 : Rows.FlatSortsKeepRowsCardSaid :=
 Claim7.holds_tied_plain_at .later [] _ _ _ _ said_35 (fun _ h => by cases h) (by kernel_rfl) (fun _ h => by cases h) flatSortsKeepRows_row_tie rfl ⟨rfl, rfl⟩ (by kernel_rfl) rfl plain_35 (by kernel_rfl)
end Go.Proofs.YtbnjejenejoibaaGreatDoor
