
/- The statement of FlatOrdersMatchSpec: for every input the law returns true, and the input reads as it did; the listed tables are tied to the program's text. -/
import Derived.Test.YtaiabjiehpcaoaaGreatDoorJ11
import Derived.Test.YtaiabjiehpcaoaaGreatDoorCI
import Derived.SizedLaws
import Derived.Deep.DeepWitnessRowRef
set_option maxHeartbeats 40000000
set_option maxRecDepth 100000
namespace Go.Proofs.YtaiabjiehpcaoaaGreatDoor
open Go.ChangeShapes Go.WideShapes Go.ChangeAt Go.RowKit Go.Deep Go.Joins
open Go.ChangeMaps (open_string)
set_option linter.unusedVariables false
set_option linter.unusedSimpArgs false
noncomputable def low_32:Nat:=(World.holding Tryz.prog default ⟨#[],#[],[]⟩).heap.size
noncomputable def putErr (h:Array Obj) (g k:Nat):Array Obj:=h.modify g fun
 | .cells _ t frozen=>.cells #[.iface 278 (.pointer (some ⟨k,0,none⟩))] t frozen
 | o=>o
noncomputable def lw_32 (os:Os):World :=
 let w0:=World.holding Tryz.prog os ⟨#[.cells #[.string ⟨#[118,97,108,117,101,32,111,117,116,32,111,102,32,114,97,110,103,101]⟩] 280,.cells #[.string ⟨#[105,110,118,97,108,105,100,32,115,121,110,116,97,120]⟩] 280],#[],[]⟩
 { w0 with heap:=putTab (putErr (putErr (putTab (putTab (putTab (putTab (w0.heap) 3 Rows.laid_math_bits_deBruijn32tab) 4 Rows.laid_math_bits_deBruijn64tab) 0 Rows.laid_internal_strconv_uint64pow10) 6 Rows.laid_unicode_utf8_acceptRanges) 8 (low_32+0)) 7 (low_32+1)) 5 Rows.laid_unicode_utf8_first }
theorem lwm_32 (os:Os):laidMet Tryz.prog Rows.flatOrdersMatchSpecRow.laid ((lw_32 os).forCall (fun _ _=>0) ⟨#[],#[.agg #[.int .u8 0,.int .u8 0,.slice Option.none 0 0,.string ⟨#[]⟩,.string ⟨#[]⟩,.string ⟨#[]⟩,.string ⟨#[]⟩],.slice Option.none 0 0],[]⟩).memory :=
 laidMet_of_run' 8 (by kernel_rfl) (by kernel_rfl)
theorem reads_32 (os:Os) {H:Type} (enc:TypeId×Value->H):∃ places,DataW.whole enc Tryz.prog ((lw_32 os).forCall (fun _ _=>0) ⟨#[],#[.agg #[.int .u8 0,.int .u8 0,.slice Option.none 0 0,.string ⟨#[]⟩,.string ⟨#[]⟩,.string ⟨#[]⟩,.string ⟨#[]⟩],.slice Option.none 0 0],[]⟩).memory Tryz.f4.params.toList Rows.flatOrdersMatchSpecSpec.vars false #[.agg #[.int .u8 0,.int .u8 0,.slice Option.none 0 0,.string ⟨#[]⟩,.string ⟨#[]⟩,.string ⟨#[]⟩,.string ⟨#[]⟩],.slice Option.none 0 0].toList 8=some ([.agg [.lit (.int .u8 0),.lit (.int .u8 0),.nil,.lit (.string []),.lit (.string []),.lit (.string []),.lit (.string [])],.nil],[],places) :=
 ⟨[],by kernel_rfl⟩
theorem contract_32 (H:Type) (enc:TypeId×Value->H) (W:World) (base:Nat) (args:Array Value) (ds gs:List (DataW H)) (before:List MemPlace)
  (hval0:∀ (j:Nat) t v,Tryz.f4.params[j]?=some t->args[j]?=some v->Value.okWide Tryz.prog W .any base t v)
  (hW:DataW.Whole enc Tryz.prog Tryz.f4.params.toList Rows.flatOrdersMatchSpecSpec.vars false W args.toList ds gs before) (hsz:(DataW.weightsEach Tryz.prog (Tryz.f4.params.toList++(OpenSpec.ofChange Rows.flatOrdersMatchSpecSpec).bare.plain.varTypes Tryz.prog) (ds++gs)).all (· <= reachBytes)=true) (hL:laidMetH Tryz.prog Rows.flatOrdersMatchSpecRow.laid W) (hsh:W.ShapedOpen Tryz.prog) :
  Calls Tryz.prog 4 args W fun e W'=>∃ v,e=.returned v/\Rows.flatOrdersMatchSpecSpec.post enc Tryz.prog Tryz.f4 false true false false W args v W':=by
 have hval:∀ (j:Nat) t v,Tryz.f4.params[j]?=some t->args[j]?=some v->Value.okWide Tryz.prog W .any base t v:=hval0
 have hW':=hW
 obtain ⟨p,q,hA0,hV,rfl,hfz,hnd⟩:=hW
 have hA:DataW.TrodAll enc Tryz.prog W 0 (fun _=>true) true Tryz.f4.params.toList args.toList ds p:=hA0
 rw [Tryz.params4] at hA hval
 obtain ⟨v0,vs0,d0,ds0,p0,q0,hargs,rfl,rfl,h0,r0⟩:=trodAll_cons hA
 obtain ⟨v1,vs1,d1,ds1,p1,q1,rfl,rfl,rfl,h1,r1⟩:=trodAll_cons r0
 obtain ⟨rfl,rfl,rfl⟩:=trodAll_nil r1
 obtain rfl:args=#[v0,v1]:=by cases args;simp_all
 obtain ⟨rfl,rfl⟩:=trodVars_none hV
 have k0:=h0
 have lt0:∀ x∈p0,x.block<W.heap.size:=by obtain ⟨m,hm⟩:=k0;exact DataW.trod_lt m _ _ _ hm
 obtain ⟨f0,A0,c0,FA0,FC0,rfl,hK0,hl0,hc0,hm0,hq0⟩:=opened_fmt (hval 0 24 v0 rfl rfl) h0
 have k1:=h1
 have lt1:∀ x∈p1,x.block<W.heap.size:=by obtain ⟨m,hm⟩:=k1;exact DataW.trod_lt m _ _ _ hm
 obtain ⟨A1,c1,rs1,RA1,RC1,rfl,hR1,hC1,hM1,hz1⟩:=opened_flatrowsZ (hval 1 25 v1 rfl rfl) h1
 have zr1:=rows_reach hsz (j:=1) rfl rfl hz1
 clear hA0 hval0
 refine (law_orders_i f0 A0 c0 FA0 FC0 A1 c1 rs1 RA1 RC1 W hK0 hR1 hC1 hM1 zr1 hl0 hm0 hq0 (tab_of_laid (l:=Rows.flatOrdersMatchSpecRow.laid) (by kernel_rfl) (.tail _ (.tail _ (.head _))) (by kernel_rfl) hL) (Tryz.laysM146.s1_3 W hsh)).mono fun e W' ⟨he,bel⟩=>?_
 subst he
 exact ⟨_,rfl,_,_,_,[],_,[],hW',trodAll_mk1 (shut_bool Tryz.underlying4 _),(trodAll_cons_mk (Below.trod laidOut (by kernel_rfl) (of_decide_eq_true (by kernel_rfl)) k0 bel lt0) (trodAll_cons_mk (Below.trod laidOut (by kernel_rfl) (of_decide_eq_true (by kernel_rfl)) k1 bel lt1) trodAll_mk0)),rfl,bel.frame _,fun h=>by cases h⟩
theorem lifted_32 (os:Os) (started:os.Started) (H:Type) (enc:TypeId×Value->H) (F:Stop.Interp) :
  ReturnsInHanded {} Tryz.checked os 4 .any ((OpenSpec.ofChange Rows.flatOrdersMatchSpecSpec).preRow enc Tryz.prog Tryz.f4 Rows.flatOrdersMatchSpecRow.domain false Rows.flatOrdersMatchSpecRow.laid) (((OpenSpec.ofChange Rows.flatOrdersMatchSpecSpec).at F).post enc Tryz.prog Tryz.f4 false true false false):=by
 obtain ⟨places,hx⟩:=reads_32 os enc
 refine returnsInHanded_of_row (C:=Tryz.checked) (s:=OpenSpec.ofChange Rows.flatOrdersMatchSpecSpec) own started (by kernel_rfl) Tryz.func4
  (witness_row_atRef (enc:=enc) (C:=Tryz.checked) false (lw_32 os) #[.agg #[.int .u8 0,.int .u8 0,.slice Option.none 0 0,.string ⟨#[]⟩,.string ⟨#[]⟩,.string ⟨#[]⟩,.string ⟨#[]⟩],.slice Option.none 0 0] rfl (by kernel_rfl) (by kernel_rfl) (by kernel_rfl)
   (OpenSpec.preRow_of_cond 8 hx (by kernel_rfl) (fun k hk=>by cases hk) (by kernel_rfl) (lwm_32 os))) ?_
 intro W base args ds gs before hval hW _ _ hsz hL hsh _
 exact contract_32 H enc W base args ds gs before hval hW hsz hL hsh
theorem andT {a b:Bool} (h1:a=true) (h2:b=true):(a&&b)=true:=by rw [h1,h2];rfl
theorem closed_32:joinedFacts Tryz.pinned.checked.prog 4 Tryz.f4 (OpenSpec.ofChange Rows.flatOrdersMatchSpecSpec).bare Rows.flatOrdersMatchSpecRow=true:=by
 unfold joinedFacts
 repeat' (with_reducible apply andT)
 all_goals (as_aux_lemma=>kernel_rfl)
theorem inst_32:Tryz.f4.isInstance Tryz.pinned.checked.prog Rows.flatOrdersMatchSpecRow.origin Rows.flatOrdersMatchSpecRow.targs:=of_decide_eq_true (by kernel_rfl)
theorem wrap_32:Tryz.f4.isWrapper Tryz.pinned.checked.prog Rows.flatOrdersMatchSpecRow.wrapper Rows.flatOrdersMatchSpecRow.mainSum:=by unfold Func.isWrapper;first | (rw [if_pos (by decide +kernel)];kernel_rfl) | (rw [if_neg (by decide +kernel)];exact ⟨rfl,rfl⟩)
theorem name_32:Tryz.pinned.checked.prog.funcNamed Rows.flatOrdersMatchSpecRow.func=some 4:=by kernel_rfl
theorem said_32:Rows.FlatOrdersMatchSpecSaid :=
 OpenClaim.holds_of_cond 4 Tryz.f4 rfl rfl rfl rfl rfl rfl rfl ⟨rfl,rfl,rfl,rfl,rfl⟩ rfl rfl rfl rfl rfl name_32 Tryz.func4 closed_32 inst_32 wrap_32
  (fun os started H enc _ F=>by rw [OpenClaim.pre_eq_preRow];exact lifted_32 os started H enc F)
theorem plain_32 (f:FuncId) (fn:Func) (hf:Tryz.pinned.checked.prog.funcNamed Rows.flatOrdersMatchSpecRow.func=some f) (hfn:Tryz.pinned.checked.prog.funcs[f]?=some fn) :
  true=Tryz.pinned.checked.prog.looks []/\∀ (j:Nat) t,fn.params[j]?=some t->Tryz.pinned.checked.prog.wantsStandIn t=false:=by
 obtain rfl:f=4:=Option.some.inj ((show Tryz.prog.funcNamed Rows.flatOrdersMatchSpecRow.func=some 4 by kernel_rfl).symm.trans hf) |>.symm
 obtain rfl:fn=Tryz.f4:=(Option.some.inj (Tryz.func4.symm.trans hfn)).symm
 refine ⟨by kernel_rfl,fun j t ht=>?_⟩
 rw [Tryz.params4] at ht
 have hm:=Array.mem_of_getElem? ht
 simp at hm
 rcases hm with rfl | rfl
 all_goals first | (exact (show Tryz.prog.wantsStandIn 3=false by kernel_rfl)) | (exact (show Tryz.prog.wantsStandIn 9=false by kernel_rfl)) | (exact (show Tryz.prog.wantsStandIn 5=false by kernel_rfl)) | (exact (show Tryz.prog.wantsStandIn 24=false by kernel_rfl))
theorem card_32:Rows.FlatOrdersMatchSpecCardSaid :=
 Claim7.holds_tied_plain_at .later [] _ _ _ _ said_32 (fun _ h=>by cases h) (by kernel_rfl) (fun _ h=>by cases h) flatOrdersMatchSpec_row_tie rfl ⟨rfl,rfl⟩ (by kernel_rfl) rfl plain_32 (by kernel_rfl)
end Go.Proofs.YtaiabjiehpcaoaaGreatDoor
