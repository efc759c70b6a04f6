
/- The statement of TopFlatOrdersAddUp: for every input the law returns true, and the input reads as it did; the listed tables are tied to the program's text. -/
import Derived.Test.YtbfbgappinilmaaGreatDoorJ7
import Derived.Test.YtbfbgappinilmaaGreatDoorJB
import Derived.SizedLaws
import Derived.Deep.DeepWitnessRowRef
namespace Go.Proofs.YtbfbgappinilmaaGreatDoor
open Go.ChangeShapes Go.WideShapes Go.ChangeAt Go.RowKit Go.Deep Go.Joins
open Go.ChangeMaps (open_string)
set_option linter.unusedVariables false
set_option linter.unusedSimpArgs false
noncomputable def low_37:Nat:=(World.holding Tryz.prog default ⟨#[],#[],[]⟩).heap.size
noncomputable def putErr (h:Array Obj) (g k:Nat):Array Obj:=h.modify g fun
 | .cells _ t frozen=>.cells #[.iface 244 (.pointer (some ⟨k,0,none⟩))] t frozen
 | o=>o
noncomputable def lw_37 (os:Os):World :=
 let w0:=World.holding Tryz.prog os ⟨#[.cells #[.string ⟨#[118,97,108,117,101,32,111,117,116,32,111,102,32,114,97,110,103,101]⟩] 246,.cells #[.string ⟨#[105,110,118,97,108,105,100,32,115,121,110,116,97,120]⟩] 246],#[],[]⟩
 { w0 with heap:=putTab (putErr (putErr (putTab (putTab (putTab (putTab (w0.heap) 5 Rows.laid_math_bits_deBruijn32tab) 6 Rows.laid_math_bits_deBruijn64tab) 2 Rows.laid_internal_strconv_uint64pow10) 4 Rows.laid_unicode_utf8_acceptRanges) 8 (low_37+0)) 7 (low_37+1)) 3 Rows.laid_unicode_utf8_first }
theorem lwm_37 (os:Os):laidMet Tryz.prog Rows.topFlatOrdersAddUpRow.laid ((lw_37 os).forCall (fun _ _=>0) ⟨#[],#[.agg #[.string ⟨#[]⟩,.string ⟨#[]⟩,.string ⟨#[]⟩,.int .i64 0,.int .i64 0,.slice Option.none 0 0]],[]⟩).memory :=
 laidMet_of_run' 8 (by kernel_rfl) (by kernel_rfl)
theorem reads_37 (os:Os) {H:Type} (enc:TypeId×Value->H):∃ places,DataW.whole enc Tryz.prog ((lw_37 os).forCall (fun _ _=>0) ⟨#[],#[.agg #[.string ⟨#[]⟩,.string ⟨#[]⟩,.string ⟨#[]⟩,.int .i64 0,.int .i64 0,.slice Option.none 0 0]],[]⟩).memory Tryz.f3.params.toList Rows.topFlatOrdersAddUpSpec.vars false #[.agg #[.string ⟨#[]⟩,.string ⟨#[]⟩,.string ⟨#[]⟩,.int .i64 0,.int .i64 0,.slice Option.none 0 0]].toList 8=some ([.agg [.lit (.string []),.lit (.string []),.lit (.string []),.lit (.int .i64 0),.lit (.int .i64 0),.nil]],[],places) :=
 ⟨[],by kernel_rfl⟩
set_option maxRecDepth 100000 in
theorem contract_37 (H:Type) (enc:TypeId×Value->H) (W:World) (base:Nat) (args:Array Value) (ds gs:List (DataW H)) (before:List MemPlace)
  (hval0:∀ (j:Nat) t v,Tryz.f3.params[j]?=some t->args[j]?=some v->Value.okWide Tryz.prog W .any base t v)
  (hW:DataW.Whole enc Tryz.prog Tryz.f3.params.toList Rows.topFlatOrdersAddUpSpec.vars false W args.toList ds gs before) (hsz:(DataW.weightsEach Tryz.prog (Tryz.f3.params.toList++(OpenSpec.ofChange Rows.topFlatOrdersAddUpSpec).bare.plain.varTypes Tryz.prog) (ds++gs)).all (· <= reachBytes)=true) (hL:laidMetH Tryz.prog Rows.topFlatOrdersAddUpRow.laid W) (hsh:W.ShapedOpen Tryz.prog) :
  Calls Tryz.prog 3 args W fun e W'=>∃ v,e=.returned v/\Rows.topFlatOrdersAddUpSpec.post enc Tryz.prog Tryz.f3 false true false false W args v W':=by
 have hval:∀ (j:Nat) t v,Tryz.f3.params[j]?=some t->args[j]?=some v->Value.okWide Tryz.prog W .any base t v:=hval0
 have hW':=hW
 obtain ⟨p,q,hA0,hV,rfl,hfz,hnd⟩:=hW
 have hA:DataW.TrodAll enc Tryz.prog W 0 (fun _=>true) true Tryz.f3.params.toList args.toList ds p:=hA0
 rw [Tryz.params3] at hA hval
 obtain ⟨v0,vs0,d0,ds0,p0,q0,hargs,rfl,rfl,h0,r0⟩:=trodAll_cons hA
 obtain ⟨rfl,rfl,rfl⟩:=trodAll_nil r0
 obtain rfl:args=#[v0]:=by cases args;simp_all
 obtain ⟨rfl,rfl⟩:=trodVars_none hV
 have k0:=h0
 have lt0:∀ x∈p0,x.block<W.heap.size:=by obtain ⟨m,hm⟩:=k0;exact DataW.trod_lt m _ _ _ hm
 obtain ⟨oa0,ob0,oc0,od0,oe0,A0,c0,ls0,rfl,hR0,hn0,sa0,sb0,sc0⟩:=opened_order (hval 0 24 v0 rfl rfl) h0
 clear hA0 hval0
 refine (law_flat_e oa0 ob0 oc0 od0 oe0 A0 c0 ls0 W hR0 hn0 sa0 sb0 sc0 (tab_of_laid (l:=Rows.topFlatOrdersAddUpRow.laid) (by kernel_rfl) (.tail _ (.tail _ (.head _))) (by kernel_rfl) hL) (Tryz.laysM155.s1_3 W hsh)).mono fun e W' ⟨he,bel⟩=>?_
 subst he
 exact ⟨_,rfl,_,_,_,[],_,[],hW',trodAll_mk1 (shut_bool Tryz.underlying4 _),(trodAll_cons_mk (Below.trod laidOut (by kernel_rfl) (of_decide_eq_true (by kernel_rfl)) k0 bel lt0) trodAll_mk0),rfl,bel.frame _,fun h=>by cases h⟩
set_option maxRecDepth 100000 in
theorem lifted_37 (os:Os) (started:os.Started) (H:Type) (enc:TypeId×Value->H) (F:Stop.Interp) :
  ReturnsInHanded {} Tryz.checked os 3 .any ((OpenSpec.ofChange Rows.topFlatOrdersAddUpSpec).preRow enc Tryz.prog Tryz.f3 Rows.topFlatOrdersAddUpRow.domain false Rows.topFlatOrdersAddUpRow.laid) (((OpenSpec.ofChange Rows.topFlatOrdersAddUpSpec).at F).post enc Tryz.prog Tryz.f3 false true false false):=by
 obtain ⟨places,hx⟩:=reads_37 os enc
 refine returnsInHanded_of_row (C:=Tryz.checked) (s:=OpenSpec.ofChange Rows.topFlatOrdersAddUpSpec) own started (by kernel_rfl) Tryz.func3
  (witness_row_atRef (enc:=enc) (C:=Tryz.checked) false (lw_37 os) #[.agg #[.string ⟨#[]⟩,.string ⟨#[]⟩,.string ⟨#[]⟩,.int .i64 0,.int .i64 0,.slice Option.none 0 0]] rfl (by kernel_rfl) (by kernel_rfl) (by kernel_rfl)
   (OpenSpec.preRow_of_cond 8 hx (by kernel_rfl) (fun k hk=>by cases hk) (by kernel_rfl) (lwm_37 os))) ?_
 intro W base args ds gs before hval hW _ _ hsz hL hsh _
 exact contract_37 H enc W base args ds gs before hval hW hsz hL hsh
theorem andT {a b:Bool} (h1:a=true) (h2:b=true):(a&&b)=true:=by rw [h1,h2];rfl
set_option maxHeartbeats 40000000 in
set_option maxRecDepth 100000 in
theorem closed_37:joinedFacts Tryz.pinned.checked.prog 3 Tryz.f3 (OpenSpec.ofChange Rows.topFlatOrdersAddUpSpec).bare Rows.topFlatOrdersAddUpRow=true:=by
 unfold joinedFacts
 repeat' (with_reducible apply andT)
 all_goals (as_aux_lemma=>kernel_rfl)
theorem inst_37:Tryz.f3.isInstance Tryz.pinned.checked.prog Rows.topFlatOrdersAddUpRow.origin Rows.topFlatOrdersAddUpRow.targs:=of_decide_eq_true (by kernel_rfl)
theorem wrap_37:Tryz.f3.isWrapper Tryz.pinned.checked.prog Rows.topFlatOrdersAddUpRow.wrapper Rows.topFlatOrdersAddUpRow.mainSum:=by unfold Func.isWrapper;first | (rw [if_pos (by decide +kernel)];kernel_rfl) | (rw [if_neg (by decide +kernel)];exact ⟨rfl,rfl⟩)
theorem name_37:Tryz.pinned.checked.prog.funcNamed Rows.topFlatOrdersAddUpRow.func=some 3:=by kernel_rfl
theorem said_37:Rows.TopFlatOrdersAddUpSaid :=
 OpenClaim.holds_of_cond 3 Tryz.f3 rfl rfl rfl rfl rfl rfl rfl ⟨rfl,rfl,rfl,rfl,rfl⟩ rfl rfl rfl rfl rfl name_37 Tryz.func3 closed_37 inst_37 wrap_37
  (fun os started H enc _ F=>by rw [OpenClaim.pre_eq_preRow];exact lifted_37 os started H enc F)
set_option maxRecDepth 100000 in
theorem plain_37 (f:FuncId) (fn:Func) (hf:Tryz.pinned.checked.prog.funcNamed Rows.topFlatOrdersAddUpRow.func=some f) (hfn:Tryz.pinned.checked.prog.funcs[f]?=some fn) :
  true=Tryz.pinned.checked.prog.looks []/\∀ (j:Nat) t,fn.params[j]?=some t->Tryz.pinned.checked.prog.wantsStandIn t=false:=by
 obtain rfl:f=3:=Option.some.inj ((show Tryz.prog.funcNamed Rows.topFlatOrdersAddUpRow.func=some 3 by kernel_rfl).symm.trans hf) |>.symm
 obtain rfl:fn=Tryz.f3:=(Option.some.inj (Tryz.func3.symm.trans hfn)).symm
 refine ⟨by kernel_rfl,fun j t ht=>?_⟩
 rw [Tryz.params3] at ht
 have hm:=Array.mem_of_getElem? ht
 simp at hm
 rcases hm with rfl
 all_goals first | (exact (show Tryz.prog.wantsStandIn 3=false by kernel_rfl)) | (exact (show Tryz.prog.wantsStandIn 9=false by kernel_rfl)) | (exact (show Tryz.prog.wantsStandIn 5=false by kernel_rfl)) | (exact (show Tryz.prog.wantsStandIn 24=false by kernel_rfl))
theorem card_37:Rows.TopFlatOrdersAddUpCardSaid :=
 Claim7.holds_tied_plain_at .later [] _ _ _ _ said_37 (fun _ h=>by cases h) (by kernel_rfl) (fun _ h=>by cases h) topFlatOrdersAddUp_row_tie rfl ⟨rfl,rfl⟩ (by kernel_rfl) rfl plain_37 (by kernel_rfl)
end Go.Proofs.YtbfbgappinilmaaGreatDoor
