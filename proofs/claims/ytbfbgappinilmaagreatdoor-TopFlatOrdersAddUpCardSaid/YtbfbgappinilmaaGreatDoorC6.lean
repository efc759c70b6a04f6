
/- The walk of Closed. (Printed by genC6.py.) -/
import Derived.Test.YtbfbgappinilmaaGreatDoorC5
import Derived.Test.YtbfbgappinilmaaGreatDoorG1
import Derived.Deep.OwnRows
import Derived.Deep.AppendLies
import Derived.Deep.DeepCutAuto
namespace Go.Proofs.YtbfbgappinilmaaGreatDoor
open Go.RowKit Limb Nmb Work
set_option linter.unusedVariables false
set_option linter.unusedSimpArgs false
theorem Tryz.infoStr:(Tryz.prog.info? 9).map (fun i=>(i.zero,i.size,i.bytes))=some (some (.string ⟨#[]⟩),1,16):=by kernel_rfl
section
variable {P:Program} {ops:Array Oper} {Q:Exit->Act->World->Prop} {md:Region.Mode} {k:Nat}
theorem Till.forkC {T:World->Prop} {i j:Nat} {o p:Oper} {n:Nat} {ls:Array Bool} {a:Act} {w:World} (hr:Region.ready md ops ls=[i,j]) (ho:ops[i]?=some o) (hp:ops[j]?=some p)
  (h1:∀ K':Act->World->Prop,Hid (∀ a w,((ls.setIfInBounds i true).getD k true=false->T w)->Till P md ops Q T k n (ls.setIfInBounds i true) a w->K' a w) ->
   if Region.wanted o (yielded ops a.tmps)=true then Oper.wp P o a w K' Q else K' (a.put o.dst undef) w)
  (h2:∀ K':Act->World->Prop,Hid (∀ a w,((ls.setIfInBounds j true).getD k true=false->T w)->Till P md ops Q T k n (ls.setIfInBounds j true) a w->K' a w) ->
   if Region.wanted p (yielded ops a.tmps)=true then Oper.wp P p a w K' Q else K' (a.put p.dst undef) w):Till P md ops Q T k (n+1) ls a w :=
 ⟨fun h0=>(by rw [hr] at h0;cases h0),fun x hx=>by
  rw [hr] at hx
  rcases List.mem_cons.1 hx with rfl | hx
  ·exact wpOp_step ho fun K' hK=>h1 K' fun a w g1 g2=>hK a w ⟨g1,g2⟩
  ·obtain rfl:=List.mem_singleton.1 hx
   exact wpOp_step hp fun K' hK=>h2 K' fun a w g1 g2=>hK a w ⟨g1,g2⟩⟩
end
theorem err_if {C:Prop} [Decidable C] {e x:Int} {z:List RowP×Int} (he:C->e≠0):(if (if C then e else x)≠0 then ([],if C then e else x) else z)=if C then ([],e) else (if x≠0 then ([],x) else z):=by
 by_cases h:C
 ·rw [if_pos h,if_pos h,if_pos (he h)]
 ·rw [if_neg h,if_neg h]
theorem closedR_eq (f:Fmt) (rs:List RowP):closedR f rs=if checkF f≠0 then ([],checkF f) else if f.tail=⟨#[]⟩ then ([],9) else if 2000<rs.length then ([],2) else if (rowsF f rs).2≠0 then ([],(rowsF f rs).2) else if sumB f (innL f rs)=true then ([],6)
  else if f.sum≠⟨#[]⟩/\(sumD f (innL f rs)).2.2≠0 then ([],(sumD f (innL f rs)).2.2) else if (rowF f ⟨f.tail,tailV2 f rs⟩).2≠0 then ([],(rowF f ⟨f.tail,tailV2 f rs⟩).2) else if 2000<(restL f rs).length+1 then ([],2) else (restL f rs++[⟨f.tail,tailV2 f rs⟩],0):=by
 unfold closedR closedE
 rw [err_if (fun h=>h),err_if (fun _=>by decide),err_if (fun _=>by decide),err_if (fun h=>h),err_if (fun _=>by decide),err_if (fun h=>h.2),err_if (fun h=>h),err_if (fun _=>by decide),if_neg (c:=(0:Int)≠0) (fun h=>h rfl)]
 rfl
def RetCD (r:List RowP×Int) (w:World) (e:Ending) (w':World):Prop:=∃ X c,e=.returned (.tuple #[.slice X r.1.length c,.int .i64 r.2])/\(∃ RA RC,RowsM w' X r.1 RA RC)/\(r.1.length<=c/\c<=9223372036854775807)/\Below w.heap.size w w'
theorem RetCD.no {x:Int} {w w':World} (hb:Below w.heap.size w w'):RetCD ([],x) w (.returned (.tuple #[.slice none 0 0,.int .i64 x])) w' :=
 ⟨none,0,rfl,⟨fun _=>none,fun _=>0,fun h=>absurd h (Nat.not_lt_zero _),fun j hj=>absurd hj (Nat.not_lt_zero _),Nat.zero_le _⟩,⟨Nat.le_refl _,by decide⟩,hb⟩
theorem RwsO.cap {w1 wr:World} {X:Option Addr} {n c:Nat} {l:List RowP} (h:RwsO w1 wr X n c l):n<=c/\c<=9223372036854775807:=by
 obtain ⟨_,_,_,h2,_,_⟩:=h
 have:=own_cap h2
 unfold maxLen at this
 exact this
def TailSt (wk wx:World) (TB:Nat) (tl:ByteArray) (V:List ByteArray):Prop:=∃ (TX:Option Addr) (TC:Nat),wk.heap.size<=TB/\wx.heap[TB]?=some (.cells #[.string tl,.slice TX V.length TC] 39 (0,0))/\wx.ownsRow wk.heap.size 9 1 (.slice TX V.length TC) V.length (ystrV V)/\Below wk.heap.size wk wx
theorem own_made9 (w:World) (B N:Nat) (hB:B<=w.heap.size) (hN:N<=100000):(w.alloc (.cells (madeCells #[Value.string ⟨#[]⟩] N) 9)).ownsRow B 9 1 (.slice (some ⟨w.heap.size,0,none⟩) N N) N (ystrV (List.replicate N ⟨#[]⟩)):=by
 have h:=World.ownsRow_lit (base:=B) (e:=9) (size:=1) w (madeCells #[Value.string ⟨#[]⟩] N) N hB (by unfold maxLen;omega) (by
  have:=congrArg List.length (toList_madeCells_one (.string ⟨#[]⟩) N)
  rw [Array.length_toList,List.length_replicate] at this
  omega)
 rw [toList_madeCells_one] at h
 have e:ystrV (List.replicate N ⟨#[]⟩)=List.replicate N (Value.string ⟨#[]⟩):=by simp [ystrV]
 rw [e]
 exact h
theorem TailSt.made1 (wk:World) (tl:ByteArray) (nf:Nat) (hnf:nf<=50):TailSt wk ((wk.alloc (.cells (madeCells #[Value.string ⟨#[]⟩] nf) 9)).alloc (.cells #[.string tl,.slice (some ⟨wk.heap.size,0,none⟩) nf nf] 39)).drew (wk.heap.size+1) tl (List.replicate nf ⟨#[]⟩):=by
 refine ⟨some ⟨wk.heap.size,0,none⟩,nf,Nat.le_succ _,?_,?_,by go_grown⟩
 ·rw [List.length_replicate]
  exact heap_new (wk.alloc (.cells (madeCells #[Value.string ⟨#[]⟩] nf) 9)) _ (by simp)
 ·rw [List.length_replicate]
  exact ((own_made9 wk wk.heap.size nf (Nat.le_refl _) (by omega)).alloc _).drew
theorem TailSt.made2 (wk:World) (tl:ByteArray) (nf:Nat) (hnf:nf<=50):TailSt wk ((wk.alloc (.cells #[.string tl,.slice (some ⟨wk.heap.size+1,0,none⟩) nf nf] 39)).alloc (.cells (madeCells #[Value.string ⟨#[]⟩] nf) 9)).drew wk.heap.size tl (List.replicate nf ⟨#[]⟩):=by
 refine ⟨some ⟨wk.heap.size+1,0,none⟩,nf,Nat.le_refl _,?_,?_,by go_grown⟩
 ·rw [List.length_replicate]
  exact heap_old (heap_new wk _ rfl) _
 ·rw [List.length_replicate]
  have h:=own_made9 (wk.alloc (.cells #[.string tl,.slice (some ⟨wk.heap.size+1,0,none⟩) nf nf] 39)) wk.heap.size nf (by simp) (by omega)
  rw [World.size_alloc] at h
  exact h.drew
theorem TailSt.bel {wk wx:World} {TB:Nat} {tl:ByteArray} {V:List ByteArray} (h:TailSt wk wx TB tl V):Below wk.heap.size wk wx:=by obtain ⟨_,_,_,_,_,hb⟩:=h;exact hb
theorem TailSt.below {wk wx w':World} {TB:Nat} {tl:ByteArray} {V:List ByteArray} (h:TailSt wk wx TB tl V) (hb:Below wx.heap.size wx w'):TailSt wk w' TB tl V:=by
 obtain ⟨TX,TC,h1,h2,h3,h4⟩:=h
 exact ⟨TX,TC,h1,heap_below h2 hb,own_below h3 hb,below_then hb h4 h4.size⟩
theorem TailSt.drewN {wk wx:World} {TB:Nat} {tl:ByteArray} {V:List ByteArray} (h:TailSt wk wx TB tl V) (n:Nat):TailSt wk (wx.drewN n) TB tl V:=h.below ⟨rfl,rfl,rfl,Nat.le_refl _,fun _ _=>rfl⟩
theorem TailSt.other {wk wx:World} {TB:Nat} {tl:ByteArray} {V U:List ByteArray} {Y:Option Addr} {e:Nat} (h:TailSt wk wx TB tl V) (ho:wx.ownsRow wk.heap.size 9 1 (.slice Y U.length e) U.length (ystrV U)):TailSt wk (wx.setCell ⟨TB,1,none⟩ (.slice Y U.length e)) TB tl U:=by
 obtain ⟨TX,TC,h1,h2,h3,h4⟩:=h
 exact ⟨Y,e,h1,heap_set h2 1 _,own_set9 ho h2 (by decide) _,h4.setCell (p:=⟨TB,1,none⟩) h1 _⟩
theorem TailSt.far {wk wx:World} {TB D i:Nat} {tl:ByteArray} {V:List ByteArray} {cs:Array Value} {U:TypeId} (h:TailSt wk wx TB tl V) (hd:wx.heap[D]?=some (.cells cs U (0,0))) (h1:39≠U) (h9:U≠9) (hD:wk.heap.size<=D) (u:Value):TailSt wk (wx.setCell ⟨D,i,none⟩ u) TB tl V:=by
 obtain ⟨TX,TC,g1,g2,g3,g4⟩:=h
 exact ⟨TX,TC,g1,heap_far g2 (heap_ne g2 hd h1) _,own_set9 g3 hd h9 _,g4.setCell (p:=⟨D,i,none⟩) hD _⟩
theorem TailSt.far2 {wk wx:World} {TB D:Nat} {tl:ByteArray} {V:List ByteArray} {a b u v:Value} {U:TypeId} (h:TailSt wk wx TB tl V) (hd:wx.heap[D]?=some (.cells #[a,b] U (0,0))) (h1:39≠U) (h9:U≠9) (hD:wk.heap.size<=D):TailSt wk ((wx.setCell ⟨D,0,none⟩ u).setCell ⟨D,1,none⟩ v) TB tl V :=
 (h.far hd h1 h9 hD u).far (heap_set hd 0 _) h1 h9 hD v
theorem ystrV_set (V:List ByteArray) (i:Nat) (a:ByteArray):ystrV (V.set i a)=(ystrV V).set i (.string a):=by unfold ystrV;rw [List.map_set]
theorem TailSt.put {wk wx:World} {TB g TC i:Nat} {tl a:ByteArray} {V:List ByteArray} (h1:wk.heap.size<=TB) (h2:wx.heap[TB]?=some (.cells #[.string tl,.slice (some ⟨g,0,none⟩) V.length TC] 39 (0,0))) (h3:wx.ownsRow wk.heap.size 9 1 (.slice (some ⟨g,0,none⟩) V.length TC) V.length (ystrV V)) (h4:Below wk.heap.size wk wx) (hi:i<V.length):TailSt wk (wx.setCell ⟨g,i,none⟩ (.string a)) TB tl (V.set i a):=by
 obtain ⟨cur,hcur,hbg⟩:=own_obj h3
 refine ⟨some ⟨g,0,none⟩,TC,h1,?_,?_,h4.setCell (p:=⟨g,i,none⟩) hbg _⟩
 ·rw [List.length_set]
  exact heap_far h2 (heap_ne h2 hcur (by decide)) _
 ·rw [List.length_set,ystrV_set]
  exact own_setAt h3 (by omega) _
theorem set_size {l:List ByteArray} {i:Nat} {a:ByteArray} {N:Nat} (h:∀ s∈l,s.size<=N) (ha:a.size<=N):∀ s∈l.set i a,s.size<=N:=fun s hs=>by
 rcases List.mem_or_eq_of_mem_set hs with h1 | h1
 ·exact h s h1
 ·rw [h1];exact ha
theorem RowsM.take {w:World} {L:Option Addr} {rs:List RowP} {RA:Nat->Option Addr} {RC:Nat->Nat} (h:RowsM w L rs RA RC) (n:Nat):RowsM w L (rs.take n) RA RC:=by
 refine ⟨fun hn=>?_,fun j hj=>?_,?_⟩
 ·rw [List.length_take] at hn
  obtain ⟨b,off,e,hb,hc⟩:=h.rows (by omega)
  refine ⟨b,off,e,hb,fun j hj i hi=>?_⟩
  rw [List.length_take] at hj
  rw [hc j (by omega) i hi]
  unfold rowV
  rw [rA_take (by omega)]
 ·rw [List.length_take] at hj
  rw [rA_take (by omega)]
  exact h.each j (by omega)
 ·rw [List.length_take]
  have:=h.len
  omega
theorem row_len50 {f:Fmt} (hf:FmtK f) {r:RowP} (hr:RowK f r):r.vals.length<=50:=by
 rw [hr.many]
 obtain ⟨k,hk,-,e,-⟩:=kat_at (f:=f) (t:=r.tag) (by have:=hr.kind;omega)
 rw [e]
 exact (hf.kinds k hk).many
theorem rest_rows {f:Fmt} {rs:List RowP} (hf:FmtK f) (h:(rowsF f rs).2=0):∀ j,j<(restL f rs).length->(rA (restL f rs) j).vals.length<=1000000:=fun j hj=>by
 rw [rest_rA hj]
 have h1:=rest_len f rs
 have:=row_len50 hf (rowF_ok (rows_zero h j (by omega)))
 omega
theorem RowsM.rest {w:World} {L:Option Addr} {f:Fmt} {rs:List RowP} {RA:Nat->Option Addr} {RC:Nat->Nat} (h:RowsM w L rs RA RC):RowsM w L (restL f rs) RA RC:=by
 unfold restL
 split
 ·exact h.take _
 ·exact h
theorem sumS_size (d:Int×Int×Int):(bs (textR d.1 d.2.1)).size<=9223372036854775807:=by
 rw [bs_size2]
 unfold textR
 split
 ·rename_i h
  have h1:=decB_out h
  have h2:=textL_len d.1 d.2.1.toNat
  have h3:=(dec_len (n:=d.1.natAbs) (k:=20) (by decide) (by omega)).2
  rw [h2]
  repeat' split
  all_goals omega
 ·simp
theorem cntS_size (l:List RowP) (h:l.length<=2000):(bs (Lib.itoa (l.length:Int))).size<=9223372036854775807:=by
 rw [bs_size2]
 unfold Lib.itoa
 rw [if_neg (by omega)]
 have h3:=(dec_len (n:=(l.length:Int).toNat) (k:=20) (by decide) (by simp;omega)).2
 omega
set_option maxHeartbeats 8000000 in
set_option maxRecDepth 100000 in
theorem Closed_c (f:Fmt) (A:Option Addr) (cp:Nat) (FA:Nat->Option Addr) (FC:Nat->Nat) (L:Option Addr) (LC:Nat) (rs:List RowP) (RA:Nat->Option Addr) (RC:Nat->Nat) (w:World) (ho:Kinds w A f.kinds FA FC) (hl:RowsM w L rs RA RC) (hLC:rs.length<=LC) (hcp:f.kinds.length<=cp) (hm:0<=f.mark/\f.mark<=255) (hq:0<=f.quote/\f.quote<=255) (ht:Tab w) :
  Calls Tryz.prog 8 #[fmtG f A cp,.slice L rs.length LC] w (RetCD (closedR f rs) w):=by
 have HCH:=Lib.hid (fun w h=>check_c f A cp FA FC w h hcp hm hq)
 have HCR:=Lib.hid (fun hf w h h2 ht=>chkrows_c f A cp FA FC L LC rs RA RC w h h2 hcp hf hm ht)
 have HIN:=Lib.hid (fun h2000 w h=>inner_c f A cp L LC rs RA RC w h h2000)
 have HSF:=Lib.hid (fun X c RA' RC' w h h2=>sumfault_c f A cp FA FC X c (innL f rs) RA' RC' w h h2)
 have HKA:=Lib.hid (fun w h=>kindat_c f A cp FA FC f.tail w h)
 have HSU:=Lib.hid (show (∀ j,j<(innL f rs).length->RowK f (rA (innL f rs) j))->(innL f rs).length<=2000->∀ X c RA' RC' w,Kinds w A f.kinds FA FC->RowsM w X (innL f rs) RA' RC'->Calls Tryz.prog 37 #[fmtG f A cp,.slice X (innL f rs).length c,.string ⟨#[]⟩,.string f.sum] w (RetD (sumD f (innL f rs)) w) from fun hrk h2000 X c RA' RC' w h h2=>sumof_c f A cp FA FC X c (innL f rs) RA' RC' ⟨#[]⟩ f.sum w h h2 hrk h2000)
 have HCW:=Lib.hid (fun hf V X c w h h2 ht=>checkrow_c f A cp FA FC ⟨f.tail,V⟩ X c w h h2 hf hm ht)
 have HKC:=Lib.hid (kat_cases f FA FC f.tail)
 have HFK:=Lib.hid (fun h=>checkF_ok (f:=f) h)
 have HEN:=Lib.hid (fun h=>endsF_out (checkF_ends (f:=f) h))
 have HRZ:=Lib.hid (fun h=>rows_zero (f:=f) (rs:=rs) h)
 have HIL:=Lib.hid (inn_len f rs)
 have HIO:=Lib.hid (fun h=>inn_ok (f:=f) (rs:=rs) h)
 have HT0:=Lib.hid (fun h=>tail0_len (f:=f) (rs:=rs) h)
 have HLA:=Lib.hid (show lastB f rs=(decide (0<rs.length)&&decide ((rA rs (rs.length-1)).tag=f.tail)) from rfl)
 have HRL:=Lib.hid (show restL f rs=if lastB f rs=true then rs.take (rs.length-1) else rs from rfl)
 have HV0:=Lib.hid (show tailV0 f rs=if lastB f rs=true then (rA rs (rs.length-1)).vals else List.replicate (katK f f.tail).fields.length ⟨#[]⟩ from rfl)
 have HV1:=Lib.hid (show tailV1 f rs=if f.sum≠⟨#[]⟩ then (tailV0 f rs).set (ixF (nameIs f.sum) (katK f f.tail).fields).toNat (bs (textR (sumD f (innL f rs)).1 (sumD f (innL f rs)).2.1)) else tailV0 f rs from rfl)
 have HV2:=Lib.hid (show tailV2 f rs=if f.count≠⟨#[]⟩ then (tailV1 f rs).set (ixF (nameIs f.count) (katK f f.tail).fields).toNat (bs (Lib.itoa ((innL f rs).length:Int))) else tailV1 f rs from rfl)
 have HVS:=Lib.hid (show ∀ N:Nat,(∀ s∈tailV0 f rs,s.size<=N)->(bs (textR (sumD f (innL f rs)).1 (sumD f (innL f rs)).2.1)).size<=N->(bs (Lib.itoa ((innL f rs).length:Int))).size<=N->∀ s∈tailV2 f rs,s.size<=N from fun N h1 h2 h3=>by
  have h4:∀ s∈tailV1 f rs,s.size<=N:=by
   unfold tailV1
   split
   ·exact set_size h1 h2
   ·exact h1
  unfold tailV2
  split
  ·exact set_size h4 h3
  ·exact h4)
 have HS1:=Lib.hid (sumS_size (sumD f (innL f rs)))
 have HS2:=Lib.hid (fun h=>cntS_size (innL f rs) h)
 have HR0:=Lib.hid (fun hf h=>rest_rows (f:=f) (rs:=rs) hf h)
 have HRM:=Lib.hid (fun w h=>RowsM.rest (w:=w) (L:=L) (f:=f) (rs:=rs) (RA:=RA) (RC:=RC) h)
 have HQL:=Lib.hid (rest_len f rs)
 have HK:=Lib.hid ho;have HLM:=Lib.hid hl;have HTB:=Lib.hid ht
 have hnr':=hl.len
 obtain ⟨R,hR⟩:∃ x,closedR f rs=x:=⟨_,rfl⟩
 have HR:=Lib.hid ((closedR_eq f rs).symm.trans hR)
 rw [hR]
 clear hR ho hl ht
 obtain ⟨F1,hF1⟩:∃ x,checkF f=x:=⟨_,rfl⟩
 obtain ⟨⟨RI,RE⟩,hRE⟩:∃ x,rowsF f rs=x:=⟨_,rfl⟩
 obtain ⟨IN,hIN⟩:∃ x,innL f rs=x:=⟨_,rfl⟩
 obtain ⟨V0,hV0⟩:∃ x,tailV0 f rs=x:=⟨_,rfl⟩
 obtain ⟨V1,hV1⟩:∃ x,tailV1 f rs=x:=⟨_,rfl⟩
 obtain ⟨V2,hV2⟩:∃ x,tailV2 f rs=x:=⟨_,rfl⟩
 obtain ⟨RL,hRL⟩:∃ x,restL f rs=x:=⟨_,rfl⟩
 obtain ⟨LB,hLB⟩:∃ x,lastB f rs=x:=⟨_,rfl⟩
 rw [hF1,hRE,hIN,hV2,hRL] at HR
 rw [hF1] at HCH HCR HCW HFK HEN
 rw [hRE] at HCR HRZ HT0 HR0
 rw [hIN] at HVS HS1 HS2
 rw [hV0,hV2] at HVS
 rw [hRL] at HR0 HRM HQL
 rw [hIN] at HIN HSF HSU HIL HIO HV1 HV2
 rw [hV0] at HT0 HV0 HV1
 rw [hV1] at HV1 HV2
 rw [hV2] at HV2
 rw [hRL,hLB] at HRL
 rw [hLB] at HLA HV0
 obtain ⟨SB,hSB⟩:∃ x,sumB f IN=x:=⟨_,rfl⟩
 obtain ⟨SD,hSD⟩:∃ x,sumD f IN=x:=⟨_,rfl⟩
 obtain ⟨⟨WI,WE⟩,hWE⟩:∃ x,rowF f ⟨f.tail,V2⟩=x:=⟨_,rfl⟩
 have HWE:=Lib.hid hWE
 rw [hSB,hSD,hWE] at HR
 rw [hSB] at HSF
 rw [hSD] at HSU HV1 HVS HS1
 simp only at HR HCR
 obtain ⟨nq,hnq⟩:∃ x,RL.length=x:=⟨_,rfl⟩
 have HNQ:=Lib.hid hnq
 rw [hnq] at HR HR0 HQL
 clear hF1 hRE hIN hV0 hV1 hV2 hRL hLB hSB hSD hWE hnq
 unfold RetI at HCH
 unfold RetNF at HCR HCW
 unfold RetB at HSF
 unfold RetD at HSU
 unfold RetIn at HIN
 obtain ⟨m,q,ks,hd,tl,ct,sm⟩:=f
 unfold fmtG at HCH HCR HIN HSF HKA HSU HCW ⊢
 simp only at HCH HCR HIN HSF HKA HSU HCW HR HK HKC HEN HLA HV1 HV2 HRL HV0 hcp hm ⊢
 obtain ⟨n,hn⟩:∃ x,ks.length=x:=⟨_,rfl⟩
 rw [hn] at HCH HCR HIN HSF HKA HSU HCW hcp ⊢
 clear hn
 obtain ⟨nr,hnr⟩:∃ x,rs.length=x:=⟨_,rfl⟩
 have HNR:=Lib.hid hnr
 rw [hnr] at HCR HIN HR HLA HV0 HRL HIL HQL hnr' hLC ⊢
 clear hnr
 have hP:=heap_new w (.cells #[.int .u8 m,.int .u8 q,.slice A n cp,.string hd,.string tl,.string ct,.string sm] 44) rfl
 have hB1:Below w.heap.size w (w.alloc (.cells #[.int .u8 m,.int .u8 q,.slice A n cp,.string hd,.string tl,.string ct,.string sm] 44)):=by go_grown
 go_enter Tryz.func8,Tryz.ntmps8
 go_upto_region 1 with fail
 generalize w.alloc (.cells #[.int .u8 m,.int .u8 q,.slice A n cp,.string hd,.string tl,.string ct,.string sm] 44)=w1 at hP hB1 ⊢
 have HW:=Lib.hid (show ∀ wx,Below w1.heap.size w1 wx->wx.heap[w.heap.size]?=some (.cells #[.int .u8 m,.int .u8 q,.slice A n cp,.string hd,.string tl,.string ct,.string sm] 44 (0,0))/\Kinds wx A ks FA FC/\RowsM wx L rs RA RC/\Tab wx/\Below w.heap.size w wx from fun wx h=>by
  have h2:=below_then h hB1 hB1.size
  exact ⟨heap_below hP h,HK.out.below h2,HLM.out.below h2,HTB.out.below h2,h2⟩)
 clear hP hB1
 obtain ⟨q1,qk,-,-,-⟩:=HW.out _ (Below.refl _ _)
 obtain ⟨⟨p0,p1,p2,p3,p4,p5,p6⟩,-⟩:=obox7 q1
 go_wp2_with fail
 refine (HCH.out _ qk).mono ?_
 rintro _ w2 ⟨rfl,hb2⟩
 have HB2:=Lib.hid hb2
 clear q1 qk p0 p1 p2 p3 p4 p5 p6 hb2 HCH
 obtain ⟨q1,qk,ql,qt,qb⟩:=HW.out _ HB2.out
 obtain ⟨⟨p0,p1,p2,p3,p4,p5,p6⟩,-⟩:=obox7 q1
 by_cases h0:F1=0
 case neg=>
  have HE:=Lib.hid (show R=([],F1) by rw [<- HR.out,if_pos h0])
  have h0a:(F1 !=0)=true:=by simpa using h0
  clear h0 q1 qk ql qt
  go_wp2
  go_ret2
  rw [HE.out]
  exact RetCD.no qb
 have HR1:=Lib.hid ((if_neg (fun h=>h h0)).symm.trans HR.out)
 subst h0
 have e1:=emp_dec tl
 by_cases h1:tl=⟨#[]⟩
 ·have HE:=Lib.hid (show R=([],9) by rw [<- HR1.out,if_pos h1])
  rw [decide_eq_true h1] at e1
  clear h1 q1 qk ql qt
  go_wp2
  go_ret2
  rw [HE.out]
  exact RetCD.no qb
 have HR2:=Lib.hid ((if_neg h1).symm.trans HR1.out)
 rw [decide_eq_false h1] at e1
 have HTL:=Lib.hid h1
 clear h1 HR HR1
 by_cases h2:2000<nr
 ·have HE:=Lib.hid (show R=([],2) by rw [<- HR2.out,if_pos h2])
  have h2a:(2000:Int)<(nr:Int):=by omega
  clear h2 q1 qk ql qt
  go_wp2
  go_ret2
  rw [HE.out]
  exact RetCD.no qb
 have HR3:=Lib.hid ((if_neg h2).symm.trans HR2.out)
 have h2a:¬ (2000:Int)<(nr:Int):=by omega
 have hnr:nr<=2000:=by omega
 have HIN2:=Lib.hid (fun w h=>HIN.out hnr w h)
 clear h2 HR2 HIN hnr'
 go_wp2_with fail
 refine (HCR.out trivial _ qk ql qt).mono ?_
 rintro _ w3 ⟨rfl,hb3⟩
 have HB3:=Lib.hid (below_then hb3 HB2.out HB2.out.size)
 clear q1 qk ql qt qb p0 p1 p2 p3 p4 p5 p6 hb3 HB2 HCR e1 h2a
 obtain ⟨q1,qk,ql,qt,qb⟩:=HW.out _ HB3.out
 by_cases h3:RE=0
 case neg=>
  have HE:=Lib.hid (show R=([],RE) by rw [<- HR3.out,if_pos h3])
  have h3a:(RE !=0)=true:=by simpa using h3
  clear h3 q1 qk ql qt
  go_wp2
  go_ret2
  rw [HE.out]
  exact RetCD.no qb
 have HR4:=Lib.hid ((if_neg (fun h=>h h3)).symm.trans HR3.out)
 subst h3
 clear HR3 q1 qk ql qt qb
 go_upto_region 11 with fail
 have HSB:=Lib.hid (show ∀ wx,Below w1.heap.size w1 wx->(fun w':World=>w'.cell? ⟨w.heap.size,0,none⟩=some (.int .u8 m)/\w'.cell? ⟨w.heap.size,1,none⟩=some (.int .u8 q)/\w'.cell? ⟨w.heap.size,2,none⟩=some (.slice A n cp)/\w'.cell? ⟨w.heap.size,3,none⟩=some (.string hd)/\w'.cell? ⟨w.heap.size,4,none⟩=some (.string tl)/\w'.cell? ⟨w.heap.size,5,none⟩=some (.string ct)/\w'.cell? ⟨w.heap.size,6,none⟩=some (.string sm)) wx from fun wx h=>(obox7 (HW.out wx h).1).1)
 have hT:=HSB.out _ HB3.out.drew
 refine region_till 4 (fun w':World=>w'.cell? ⟨w.heap.size,0,none⟩=some (.int .u8 m)/\w'.cell? ⟨w.heap.size,1,none⟩=some (.int .u8 q)/\w'.cell? ⟨w.heap.size,2,none⟩=some (.slice A n cp)/\w'.cell? ⟨w.heap.size,3,none⟩=some (.string hd)/\w'.cell? ⟨w.heap.size,4,none⟩=some (.string tl)/\w'.cell? ⟨w.heap.size,5,none⟩=some (.string ct)/\w'.cell? ⟨w.heap.size,6,none⟩=some (.string sm)) (by kernel_rfl) ?_
 refine Till.tk (i:=0) (v:=?_) rfl [] hT (Or.inl ⟨by rfl,?_⟩) ?_
 rotate_left
 ·(intro w' hw';obtain ⟨u0,u1,u2,u3,u4,u5,u6⟩:=hw';go_simp;try with_reducible rfl)
 (try simp only [Act.put,Till.a,Till.b,Till.c])
 refine Till.tk (i:=1) (v:=?_) rfl [3] hT (Or.inl ⟨by rfl,?_⟩) ?_
 rotate_left
 ·(intro w' hw';obtain ⟨u0,u1,u2,u3,u4,u5,u6⟩:=hw';go_simp;try with_reducible rfl)
 (try simp only [Act.put,Till.a,Till.b,Till.c])
 refine Till.tk (i:=2) (v:=?_) rfl [3] hT (Or.inl ⟨by rfl,?_⟩) ?_
 rotate_left
 ·(intro w' hw';obtain ⟨u0,u1,u2,u3,u4,u5,u6⟩:=hw';go_simp;try with_reducible rfl)
 (try simp only [Act.put,Till.a,Till.b,Till.c])
 refine Till.step (i:=3) (by kernel_rfl) rfl ?_
 intro K hK
 go_simp
 (go_at_call 34;refine (HIN2.out _ (HW.out _ HB3.out.drew).2.2.1).mono ?_;rintro _ w4 ⟨X4,c4,RA4,RC4,rfl,hrm4,hb4⟩;(have T4:Below w1.heap.size w1 w4:=below_then hb4 HB3.out.drew HB3.out.drew.size))
 have hT:=HSB.out _ T4
 refine hK.out _ _ (fun _=>hT) ?_
 clear hK K
 (try simp only [Act.put,Till.a,Till.b,Till.c])
 refine Till.step (i:=4) (by kernel_rfl) rfl ?_
 intro K hK
 go_simp
 (go_at_call 33;refine (HSF.out X4 c4 RA4 RC4 _ (HW.out _ T4).2.1 hrm4).mono ?_;rintro _ w5 ⟨rfl,hb5⟩;(have T5:Below w1.heap.size w1 w5:=below_then hb5 T4 T4.size))
 have hT:=HSB.out _ T5
 refine hK.out _ _ (fun _=>hT) ?_
 clear hK K
 (try simp only [Act.put,Till.a,Till.b,Till.c])
 refine Till.done (by kernel_rfl) ?_ _
 have HB5:=Lib.hid T5
 clear T5 T4 hT hrm4 hb4 hb5 HSB HB3 HSF
 cases hSB:SB with
 | true=>
  have HE:=Lib.hid (show R=([],6) by rw [<- HR4.out,hSB,if_pos rfl])
  have hB:=(HW.out _ HB5.out).2.2.2.2
  clear hSB
  go_wp2
  go_ret2
  rw [HE.out]
  exact RetCD.no hB
 | false=>
 have HR5:=Lib.hid (show (if sm≠⟨#[]⟩/\SD.2.2≠0 then ([],SD.2.2) else if WE≠0 then ([],WE) else if 2000<nq+1 then ([],2) else (RL++[⟨tl,V2⟩],0))=R by rw [<- HR4.out,hSB,if_neg (c:=false=true) (by decide)])
 clear hSB HR4
 obtain ⟨q1,qk,-,-,-⟩:=HW.out _ HB5.out
 obtain ⟨⟨p0,p1,p2,p3,p4,p5,p6⟩,-⟩:=obox7 q1
 have hEN:=HEN.out trivial
 have HFM:=Lib.hid (HFK.out trivial)
 have hkt:=hEN.2.1 HTL.out
 rcases HKC.out with ⟨e1,-⟩|⟨k,hk,e1,e2,e3,e4⟩
 ·omega
 have e2:katK ⟨m,q,ks,hd,tl,ct,sm⟩ tl=kA ks k:=e2
 have htg:(kA ks k).tag=tl:=by
  obtain ⟨k2,_,g1,_,g3⟩:=kat_at (f:=⟨m,q,ks,hd,tl,ct,sm⟩) (t:=tl) (by omega)
  have:k2=k:=by omega
  subst this
  exact g3
 have hk':k<ks.length:=hk
 have HCOL:=Lib.hid (fun wx (h:Below w1.heap.size w1 wx)=>kinds_cols (HW.out wx h).2.1 hk')
 have hmany:=(HFM.out.kinds k hk').many
 have htz:=(HFM.out.kinds k hk').tag.2
 simp only at hmany htz
 rw [htg] at htz
 have HTZ:=Lib.hid htz
 have HEN2:=Lib.hid hEN
 rw [e2] at HV0 HV1 HV2 HEN2
 have HT1':=Lib.hid (show V0.length=(kA ks k).fields.length by have:=HT0.out trivial;rw [e2] at this;exact this)
 clear htg htz hEN HEN HT0 HKC hkt hk
 go_wp2_with fail
 refine (HKA.out _ qk).mono ?_
 rintro _ w6 ⟨rfl,hb6⟩
 rw [e2,e3,e4]
 have td:decide (0<=katI ⟨m,q,ks,hd,tl,ct,sm⟩ tl)=true:=decide_eq_true (by omega)
 rw [td]
 have HB6:=Lib.hid (below_then hb6 HB5.out HB5.out.size)
 clear q1 qk p0 p1 p2 p3 p4 p5 p6 hb6 HB5 e1 e2 e3 e4 td HKA hk'
 obtain ⟨K,hK⟩:∃ x,kA ks k=x:=⟨_,rfl⟩
 rw [hK] at HCOL hmany HV0 HV1 HV2 HEN2 HT1' ⊢
 generalize FA k=KA at HCOL ⊢
 generalize FC k=KC
 clear hK
 have HCA:=Lib.hid (fun name wx (h:Below w1.heap.size w1 wx)=>colat_c K KA KC name wx (HCOL.out wx h))
 obtain ⟨kt,fs,km,ku⟩:=K
 unfold kindG at HCA ⊢
 simp only at HCA HCOL hmany HV0 HV1 HV2 HEN2 HT1' ⊢
 have HIXL:=Lib.hid (fun t h=>ix_lt (cs:=fs) (t:=t) h)
 obtain ⟨nf,hnf⟩:∃ x,fs.length=x:=⟨_,rfl⟩
 rw [hnf] at HCA hmany HV0 HT1' HIXL ⊢
 have HNF:=Lib.hid hnf
 clear hnf
 have hKD:=heap_new w6 (.cells #[.string kt,.slice KA nf KC,.int .i64 km,.string ku] 83) rfl
 have hBk:Below w1.heap.size w1 (w6.alloc (.cells #[.string kt,.slice KA nf KC,.int .i64 km,.string ku] 83)):=HB6.out.alloc HB6.out.size _
 go_upto_region 14 with fail
 obtain ⟨KB,hKB⟩:∃ x,w6.heap.size=x:=⟨_,rfl⟩
 rw [hKB] at hKD
 try rw [hKB]
 generalize w6.alloc (.cells #[.string kt,.slice KA nf KC,.int .i64 km,.string ku] 83)=wk at hKD hBk ⊢
 have HW2:=Lib.hid (show ∀ wx,Below wk.heap.size wk wx->wx.heap[w.heap.size]?=some (.cells #[.int .u8 m,.int .u8 q,.slice A n cp,.string hd,.string tl,.string ct,.string sm] 44 (0,0))/\wx.heap[KB]?=some (.cells #[.string kt,.slice KA nf KC,.int .i64 km,.string ku] 83 (0,0))/\Kinds wx A ks FA FC/\RowsM wx L rs RA RC/\Tab wx/\Below w1.heap.size w1 wx/\Below w.heap.size w wx from fun wx h=>by
  have h2:=below_then h hBk hBk.size
  obtain ⟨g1,g2,g3,g4,g5⟩:=HW.out wx h2
  exact ⟨g1,heap_below hKD h,g2,g3,g4,h2,g5⟩)
 clear hKD hBk hKB HB6
 have hmk:=run_make_row' (P:=Tryz.prog) 37 9 (.string ⟨#[]⟩) 16 Tryz.underlying37 Tryz.infoStr rfl .i64 .i64 nf (by omega) (by omega)
 go_cut [11] (fun v wx=>∃ TB,v=.pointer (some ⟨TB,0,none⟩)/\Hid (TailSt wk wx TB tl (List.replicate nf ⟨#[]⟩)))
 case first=>
  obtain ⟨q1,q2,-⟩:=HW2.out _ (Below.refl _ _)
  obtain ⟨⟨p0,p1,p2,p3,p4,p5,p6⟩,-⟩:=obox7 q1
  obtain ⟨⟨k0,k1,k2,k3⟩,-,-⟩:=obox4 q2
  have p4a:∀ o,(wk.alloc o).cell? ⟨w.heap.size,4,none⟩=some (.string tl):=fun o=>(World.cell?_alloc_some wk _ o (by rw [p4];rfl)).trans p4
  have k1a:∀ o,(wk.alloc o).cell? ⟨KB,1,none⟩=some (.slice KA nf KC):=fun o=>(World.cell?_alloc_some wk _ o (by rw [k1];rfl)).trans k1
  have p4b:∀ o o',((wk.alloc o).alloc o').cell? ⟨w.heap.size,4,none⟩=some (.string tl):=fun o o'=>(World.cell?_alloc_some _ _ o' (by rw [p4a];rfl)).trans (p4a o)
  have k1b:∀ o o',((wk.alloc o).alloc o').cell? ⟨KB,1,none⟩=some (.slice KA nf KC):=fun o o'=>(World.cell?_alloc_some _ _ o' (by rw [k1a];rfl)).trans (k1a o)
  clear q1 q2
  go_region
  all_goals
   go_wp2_with fail
   go_meet
   first
    | exact ⟨wk.heap.size+1,rfl,Lib.hid (TailSt.made1 wk tl nf hmany)⟩
    | exact ⟨wk.heap.size,rfl,Lib.hid (TailSt.made2 wk tl nf hmany)⟩
 case rest=>
 obtain ⟨TB,rfl,HT0⟩:=hcut
 go_upto_region 17 with fail
 go_cut [73] (fun v wx=>v=.bool LB/\Hid (TailSt wk wx TB tl (List.replicate nf ⟨#[]⟩)))
 case first=>
  obtain ⟨q1,-,-,ql,-,-,-⟩:=HW2.out _ HT0.out.bel
  obtain ⟨⟨p0,p1,p2,p3,p4,p5,p6⟩,-⟩:=obox7 q1
  rcases Nat.eq_zero_or_pos nr with h0 | h0
  ·have HLB:=Lib.hid (show LB=false by rw [HLA.out,decide_eq_false (by omega)];rfl)
   subst h0
   clear ql
   go_quiet (fail)
   go_wp2_with fail
   go_meet
   exact ⟨by rw [HLB.out],Lib.hid (HT0.out.drewN _)⟩
  ·obtain ⟨n1,hn1⟩:∃ x,nr-1=x:=⟨_,rfl⟩
   have hix:(nr:Int)-1=(n1:Int):=by omega
   have hnlt:n1<nr:=by omega
   have hpos:(0:Int)<(nr:Int):=by omega
   obtain ⟨b,off,rfl,hbk,c0,c1⟩:=ql.cells (j:=n1) (by rw [HNR.out];exact hnlt)
   have hla:=HLA.out
   rw [hn1,decide_eq_true h0,Bool.true_and] at hla
   obtain ⟨rt,hrt⟩:∃ x,(rA rs n1).tag=x:=⟨_,rfl⟩
   rw [hrt] at c0 hla
   have e4:=bytes_dec rt tl
   rw [<- hla] at e4
   clear hrt ql q1 hn1 c1 hla
   go_quiet (fail)
   go_wp2_with fail
   go_meet
   exact ⟨rfl,Lib.hid (HT0.out.drewN _)⟩
 case rest=>
 clear HT0
 obtain ⟨rfl,HT0⟩:=hcut
 go_upto_if 73 with fail
 go_cut [12] (fun v wx=>v=.slice L nq LC/\Hid (TailSt wk wx TB tl V0))
 case first=>
  cases hLB:LB with
  | false=>
   have HE1:=Lib.hid (show nq=nr by rw [<- HNQ.out,HRL.out,hLB,if_neg (by decide),HNR.out])
   have HE2:=Lib.hid (show V0=List.replicate nf ⟨#[]⟩ by rw [HV0.out,hLB,if_neg (by decide)])
   clear hLB
   go_wp2_with fail
   go_meet
   exact ⟨by rw [HE1.out],Lib.hid (by rw [HE2.out];exact HT0.out)⟩
  | true=>
   have hla:=HLA.out
   have hv0:=HV0.out
   have hrl:=HRL.out
   rw [hLB] at hla hv0 hrl
   have h0:0<nr:=by
    rcases Nat.eq_zero_or_pos nr with h | h
    ·rw [decide_eq_false (by omega)] at hla;cases hla
    ·exact h
   obtain ⟨n1,hn1⟩:∃ x,nr-1=x:=⟨_,rfl⟩
   have hix:(nr:Int)-1=(n1:Int):=by omega
   have hnlt:n1<nr:=by omega
   have hwr:IntKind.i64.wrap ((n1:Nat):Int)=(n1:Int):=IntWalk.i64_in _ (by omega)
   have hi1:(0:Int)<=(n1:Int):=by omega
   have hi2:(n1:Int)<(nr:Int):=by omega
   have hi3:(n1:Int)<=(LC:Int):=by omega
   rw [hn1] at hv0 hrl
   obtain ⟨q1,-,-,ql,-,-,-⟩:=HW2.out _ (Below.refl _ _)
   obtain ⟨b,off,rfl,hbk,c0,c1⟩:=ql.cells (j:=n1) (by rw [HNR.out];exact hnlt)
   have HRJ:=Lib.hid (fun wx h=>(HW2.out wx h).2.2.2.1.each n1 (by rw [HNR.out];exact hnlt))
   have HRK:=Lib.hid (rowF_ok (HRZ.out trivial n1 (by rw [HNR.out];exact hnlt)))
   obtain ⟨r,hr⟩:∃ x,rA rs n1=x:=⟨_,rfl⟩
   rw [hr] at hv0 c0 c1 HRJ HRK
   generalize RA n1=RJ at c1 HRJ
   generalize RC n1=CJ at c1 HRJ
   obtain ⟨rt,vs⟩:=r
   simp only at hv0 c0 c1
   obtain ⟨nv,hnv⟩:∃ x,vs.length=x:=⟨_,rfl⟩
   rw [hnv] at c1
   have HNV:=Lib.hid hnv
   have HE1:=Lib.hid (show nq=n1 by rw [<- HNQ.out,hrl];simp only [if_true];rw [List.length_take,HNR.out];omega)
   have HE2:=Lib.hid (show V0=vs by rw [hv0];exact if_pos trivial)
   have hv50:vs.length<=1000000:=by
    have h1:=HT1'.out
    rw [HE2.out] at h1
    omega
   have HCS:=Lib.hid (fun w h=>cloneS_c vs RJ CJ w h hv50)
   unfold RetCS at HCS
   rw [hnv] at HCS
   clear hr hnv ql q1 hla hv0 hrl hn1 c0 hLB hv50
   go_upto_region 18 with fail
   have HST:=Lib.hid (show ∀ wx,Below wk.heap.size wk wx->(fun w':World=>w'.cell? ⟨b,off+n1*2+1,none⟩=some (.slice RJ nv CJ)) wx from fun wx h=>(h.cell (p:=⟨b,off+n1*2+1,none⟩) hbk).trans c1)
   have hT:=HST.out _ HT0.out.bel.drew
   clear c1 hbk
   refine region_till 13 (fun w':World=>w'.cell? ⟨b,off+n1*2+1,none⟩=some (.slice RJ nv CJ)) (by kernel_rfl) ?_
   refine Till.tk (i:=0) (v:=?_) rfl [3,4,5,6,12] hT (Or.inl ⟨by rfl,?_⟩) ?_
   rotate_left
   ·(intro w' hw';have u1:w'.cell? ⟨b,off+n1*2+1,none⟩=some (.slice RJ nv CJ):=hw';go_simp;try with_reducible rfl)
   (try simp only [Act.put,Till.a,Till.b,Till.c])
   refine Till.tk (i:=1) (v:=?_) rfl [2,3,4,5,6,12] hT (Or.inl ⟨by rfl,?_⟩) ?_
   rotate_left
   ·(intro w' hw';have u1:w'.cell? ⟨b,off+n1*2+1,none⟩=some (.slice RJ nv CJ):=hw';go_simp;try with_reducible rfl)
   (try simp only [Act.put,Till.a,Till.b,Till.c])
   refine Till.tk (i:=2) (v:=?_) rfl [3,4,5,6,12] hT (Or.inl ⟨by rfl,?_⟩) ?_
   rotate_left
   ·(intro w' hw';have u1:w'.cell? ⟨b,off+n1*2+1,none⟩=some (.slice RJ nv CJ):=hw';go_simp;try with_reducible rfl)
   (try simp only [Act.put,Till.a,Till.b,Till.c])
   refine Till.tk (i:=3) (v:=?_) rfl [4,5,6,12] hT (Or.inl ⟨by rfl,?_⟩) ?_
   rotate_left
   ·(intro w' hw';have u1:w'.cell? ⟨b,off+n1*2+1,none⟩=some (.slice RJ nv CJ):=hw';go_simp;try with_reducible rfl)
   (try simp only [Act.put,Till.a,Till.b,Till.c])
   refine Till.tk (i:=4) (v:=?_) rfl [5,6,12] hT (Or.inl ⟨by rfl,?_⟩) ?_
   rotate_left
   ·(intro w' hw';have u1:w'.cell? ⟨b,off+n1*2+1,none⟩=some (.slice RJ nv CJ):=hw';go_simp;try with_reducible rfl)
   (try simp only [Act.put,Till.a,Till.b,Till.c])
   refine Till.tk (i:=5) (v:=?_) rfl [6,12] hT (Or.inl ⟨by rfl,?_⟩) ?_
   rotate_left
   ·(intro w' hw';have u1:w'.cell? ⟨b,off+n1*2+1,none⟩=some (.slice RJ nv CJ):=hw';go_simp;try with_reducible rfl)
   (try simp only [Act.put,Till.a,Till.b,Till.c])
   refine Till.tk (i:=7) (v:=?_) rfl [10] hT (Or.inl ⟨by rfl,?_⟩) ?_
   rotate_left
   ·(intro w' hw';have u1:w'.cell? ⟨b,off+n1*2+1,none⟩=some (.slice RJ nv CJ):=hw';go_simp;try with_reducible rfl)
   (try simp only [Act.put,Till.a,Till.b,Till.c])
   refine Till.tk (i:=8) (v:=?_) rfl [9,10] hT (Or.inl ⟨by rfl,?_⟩) ?_
   rotate_left
   ·(intro w' hw';have u1:w'.cell? ⟨b,off+n1*2+1,none⟩=some (.slice RJ nv CJ):=hw';go_simp;try with_reducible rfl)
   (try simp only [Act.put,Till.a,Till.b,Till.c])
   refine Till.tk (i:=9) (v:=?_) rfl [10] hT (Or.inl ⟨by rfl,?_⟩) ?_
   rotate_left
   ·(intro w' hw';have u1:w'.cell? ⟨b,off+n1*2+1,none⟩=some (.slice RJ nv CJ):=hw';go_simp;try with_reducible rfl)
   (try simp only [Act.put,Till.a,Till.b,Till.c])
   refine Till.tk (i:=10) (v:=?_) rfl [] hT (Or.inl ⟨by rfl,?_⟩) ?_
   rotate_left
   ·(intro w' hw';have u1:w'.cell? ⟨b,off+n1*2+1,none⟩=some (.slice RJ nv CJ):=hw';go_simp;try with_reducible rfl)
   (try simp only [Act.put,Till.a,Till.b,Till.c])
   refine Till.step (i:=6) (by kernel_rfl) rfl ?_
   intro K hK
   go_simp
   (go_at_call 36;refine (HCS.out _ (HRJ.out _ HT0.out.bel.drew).vals).mono ?_;rintro _ w9 ⟨Y,e,rfl,hown9,hb9⟩;(have T9:Below wc.heap.size wc w9:=⟨hb9.os,hb9.tape,hb9.output,hb9.size,hb9.block⟩))
   have hT:=HST.out _ (below_then T9 HT0.out.bel HT0.out.bel.size)
   refine hK.out _ _ (fun _=>hT) ?_
   clear hK K
   (try simp only [Act.put,Till.a,Till.b,Till.c])
   refine Till.tk (i:=11) (v:=?_) rfl [12] hT (Or.inl ⟨by rfl,?_⟩) ?_
   rotate_left
   ·(intro w' hw';go_simp;try with_reducible rfl)
   (try simp only [Act.put,Till.a,Till.b,Till.c])
   obtain ⟨TX,TC,t1,t2,t3,t4⟩:=HT0.out
   have HT9:=Lib.hid (TailSt.below HT0.out T9)
   have HO9:=Lib.hid (own_mono hown9 (show wk.heap.size<=wc.heap.size from t4.size))
   obtain ⟨z0,z1,z2,z3,z4⟩:=box2 (heap_below t2 T9)
   refine Till.step (i:=12) (by kernel_rfl) rfl ?_
   intro K hK
   go_simp
   have hT:(fun w':World=>w'.cell? ⟨b,off+n1*2+1,none⟩=some (.slice RJ nv CJ)) (w9.setCell ⟨TB,1,none⟩ (.slice Y nv e)):=HST.out _ ((below_then T9 HT0.out.bel HT0.out.bel.size).setCell (p:=⟨TB,1,none⟩) t1 _)
   refine hK.out _ _ (fun _=>hT) ?_
   clear hK K
   (try simp only [Act.put,Till.a,Till.b,Till.c])
   refine Till.step (i:=13) (by kernel_rfl) rfl ?_
   intro K hK
   go_simp
   refine hK.out _ _ (fun h=>absurd h (by decide)) ?_
   clear hK K
   (try simp only [Act.put,Till.a,Till.b,Till.c])
   refine Till.done (by kernel_rfl) ?_ _
   go_wp2_with fail
   go_meet
   exact ⟨by rw [HE1.out],Lib.hid (by rw [HE2.out,<- HNV.out];exact HT9.out.other (by rw [HNV.out];exact HO9.out))⟩
 case rest=>
 have HRZ2:=Lib.hid (HRZ.out trivial)
 have HV0':=HV0;have HLA':=HLA
 clear HT0 HLA HRL HV0 HRZ
 obtain ⟨rfl,HT1⟩:=hcut
 obtain ⟨q1,-,-,-,-,-,-⟩:=HW2.out _ HT1.out.bel
 obtain ⟨⟨p0,p1,p2,p3,p4,p5,p6⟩,-⟩:=obox7 q1
 have e5:=emp_dec sm
 obtain ⟨S0,hS0⟩:∃ x,decide (sm=⟨#[]⟩)=x:=⟨_,rfl⟩
 rw [hS0] at e5
 have HS0:=Lib.hid hS0
 clear q1 hS0
 go_upto_if 88 with fail
 clear p0 p1 p2 p3 p4 p5 p6 e5
 go_cut [] (fun wx=>Hid ((sm≠⟨#[]⟩->SD.2.2=0)/\TailSt wk wx TB tl V1))
 case first=>
  cases hS:S0 with
  | true=>
   have hse:=of_decide_eq_true (HS0.out.trans hS)
   have HE1:=Lib.hid (show V1=V0 by rw [HV1.out,if_neg (fun h=>h hse)])
   have HE2:=Lib.hid (show sm≠⟨#[]⟩->SD.2.2=0 from fun h=>absurd hse h)
   clear hS hse
   go_wp2_with fail
   go_meet
   exact Lib.hid ⟨HE2.out,by rw [HE1.out];exact HT1.out⟩
  | false=>
  have hsn:=of_decide_eq_false (HS0.out.trans hS)
  have HSN:=Lib.hid hsn
  have hix:=HIXL.out sm (HEN2.out.2.2.2.2.2.1 hsn).1
  have hix0:=(HEN2.out.2.2.2.2.2.1 hsn).1
  have HE1:=HV1.out
  rw [if_pos hsn] at HE1
  obtain ⟨IX,hIX⟩:∃ x,(ixF (nameIs sm) fs).toNat=x:=⟨_,rfl⟩
  have hIXe:ixF (nameIs sm) fs=(IX:Int):=by omega
  rw [hIX] at hix HE1
  have HCS:=Lib.hid (fun wx h=>HCA.out sm wx h)
  rw [hIXe] at HCS
  have HE1:=Lib.hid HE1
  have hixl:IX<nf:=hix.1
  have HSU2:=Lib.hid (HSU.out (HIO.out (fun j hj=>rowF_ok (HRZ2.out j hj))) (Nat.le_trans HIL.out hnr))
  have HSF2:=Lib.hid (show ∀ wx,Below wk.heap.size wk wx->(fun w':World=>w'.cell? ⟨w.heap.size,0,none⟩=some (.int .u8 m)/\w'.cell? ⟨w.heap.size,1,none⟩=some (.int .u8 q)/\w'.cell? ⟨w.heap.size,2,none⟩=some (.slice A n cp)/\w'.cell? ⟨w.heap.size,3,none⟩=some (.string hd)/\w'.cell? ⟨w.heap.size,4,none⟩=some (.string tl)/\w'.cell? ⟨w.heap.size,5,none⟩=some (.string ct)/\w'.cell? ⟨w.heap.size,6,none⟩=some (.string sm)) wx from fun wx h=>(obox7 (HW2.out wx h).1).1)
  clear hS hsn hix hix0 hIX hIXe
  go_upto_region 20 with fail
  go_cut [14,15] (fun v b wx=>∃ DB,v=.pointer (some ⟨DB,0,none⟩)/\b=.int .i64 SD.2.2/\wk.heap.size<=DB/\Hid (wx.heap[DB]?=some (.cells #[.int .i64 SD.1,.int .i64 SD.2.1] 31 (0,0)))/\Hid (TailSt wk wx TB tl V0))
  case first=>
   have hT:=HSF2.out _ HT1.out.bel.drew
   refine region_till 12 (fun w':World=>w'.cell? ⟨w.heap.size,0,none⟩=some (.int .u8 m)/\w'.cell? ⟨w.heap.size,1,none⟩=some (.int .u8 q)/\w'.cell? ⟨w.heap.size,2,none⟩=some (.slice A n cp)/\w'.cell? ⟨w.heap.size,3,none⟩=some (.string hd)/\w'.cell? ⟨w.heap.size,4,none⟩=some (.string tl)/\w'.cell? ⟨w.heap.size,5,none⟩=some (.string ct)/\w'.cell? ⟨w.heap.size,6,none⟩=some (.string sm)) (by kernel_rfl) ?_
   refine Till.tk (i:=0) (v:=?_) rfl [6,11] hT (Or.inl ⟨by rfl,?_⟩) ?_
   rotate_left
   ·(intro w' hw';obtain ⟨u0,u1,u2,u3,u4,u5,u6⟩:=hw';go_simp;try with_reducible rfl)
   (try simp only [Act.put,Till.a,Till.b,Till.c])
   refine Till.tk (i:=1) (v:=?_) rfl [3,6,11] hT (Or.inl ⟨by rfl,?_⟩) ?_
   rotate_left
   ·(intro w' hw';obtain ⟨u0,u1,u2,u3,u4,u5,u6⟩:=hw';go_simp;try with_reducible rfl)
   (try simp only [Act.put,Till.a,Till.b,Till.c])
   refine Till.tk (i:=2) (v:=?_) rfl [3,6,11] hT (Or.inl ⟨by rfl,?_⟩) ?_
   rotate_left
   ·(intro w' hw';obtain ⟨u0,u1,u2,u3,u4,u5,u6⟩:=hw';go_simp;try with_reducible rfl)
   (try simp only [Act.put,Till.a,Till.b,Till.c])
   refine Till.tk (i:=4) (v:=?_) rfl [5,6,11] hT (Or.inl ⟨by rfl,?_⟩) ?_
   rotate_left
   ·(intro w' hw';obtain ⟨u0,u1,u2,u3,u4,u5,u6⟩:=hw';go_simp;try with_reducible rfl)
   (try simp only [Act.put,Till.a,Till.b,Till.c])
   refine Till.tk (i:=5) (v:=?_) rfl [6,11] hT (Or.inl ⟨by rfl,?_⟩) ?_
   rotate_left
   ·(intro w' hw';obtain ⟨u0,u1,u2,u3,u4,u5,u6⟩:=hw';go_simp;try with_reducible rfl)
   (try simp only [Act.put,Till.a,Till.b,Till.c])
   refine Till.forkC (i:=3) (j:=10) (by kernel_rfl) rfl rfl ?_ ?_
   ·intro KK hKK
    go_simp
    (go_at_call 34;refine (HIN2.out _ (HW2.out _ (HT1.out.bel.drew)).2.2.2.1).mono ?_;rintro _ wa ⟨Xa,ca,RAa,RCa,rfl,hrma,hba⟩;(have Ta:Below wk.heap.size wk wa:=below_then hba (HT1.out.bel.drew) (HT1.out.bel.drew).size);(have Ua:Below wc.heap.size wc wa:=⟨hba.os,hba.tape,hba.output,hba.size,hba.block⟩))
    have hT:=HSF2.out _ Ta
    refine hKK.out _ _ (fun _=>hT) ?_
    clear hKK KK
    (try simp only [Act.put,Till.a,Till.b,Till.c])
    refine Till.forkC (i:=6) (j:=10) (by kernel_rfl) rfl rfl ?_ ?_
    ·intro KK hKK
     go_simp
     (go_at_call 37;refine (HSU2.out Xa ca RAa RCa _ (HW2.out _ Ta).2.2.1 hrma).mono ?_;rintro _ wb ⟨rfl,hbb⟩;(have Tb:Below wk.heap.size wk wb:=below_then hbb Ta Ta.size))
     have hT:=HSF2.out _ Tb
     refine hKK.out _ _ (fun _=>hT) ?_
     clear hKK KK
     (try simp only [Act.put,Till.a,Till.b,Till.c])
     refine Till.tk (i:=7) (v:=?_) rfl [9] hT (Or.inl ⟨by rfl,?_⟩) ?_
     rotate_left
     ·(intro w' hw';obtain ⟨u0,u1,u2,u3,u4,u5,u6⟩:=hw';go_simp;try with_reducible rfl)
     (try simp only [Act.put,Till.a,Till.b,Till.c])
     refine Till.tk (i:=8) (v:=?_) rfl [11] hT (Or.inl ⟨by rfl,?_⟩) ?_
     rotate_left
     ·(intro w' hw';obtain ⟨u0,u1,u2,u3,u4,u5,u6⟩:=hw';go_simp;try with_reducible rfl)
     (try simp only [Act.put,Till.a,Till.b,Till.c])
     refine Till.tk (i:=9) (v:=?_) rfl [] hT (Or.inl ⟨by rfl,?_⟩) ?_
     rotate_left
     ·(intro w' hw';obtain ⟨u0,u1,u2,u3,u4,u5,u6⟩:=hw';go_simp;try with_reducible rfl)
     (try simp only [Act.put,Till.a,Till.b,Till.c])
     refine Till.step (i:=10) (by kernel_rfl) rfl ?_
     intro K hK
     go_simp
     have hT:(fun w':World=>w'.cell? ⟨w.heap.size,0,none⟩=some (.int .u8 m)/\w'.cell? ⟨w.heap.size,1,none⟩=some (.int .u8 q)/\w'.cell? ⟨w.heap.size,2,none⟩=some (.slice A n cp)/\w'.cell? ⟨w.heap.size,3,none⟩=some (.string hd)/\w'.cell? ⟨w.heap.size,4,none⟩=some (.string tl)/\w'.cell? ⟨w.heap.size,5,none⟩=some (.string ct)/\w'.cell? ⟨w.heap.size,6,none⟩=some (.string sm)) (wb.alloc (.cells #[.int .i64 0,.int .i64 0] 31)):=HSF2.out _ (Tb.alloc Tb.size _)
     refine hK.out _ _ (fun _=>hT) ?_
     clear hK K
     (try simp only [Act.put,Till.a,Till.b,Till.c])
     have HZ:=Lib.hid (heap_new wb (.cells #[.int .i64 0,.int .i64 0] 31) rfl)
     have HTX:=Lib.hid (HT1.out.below (((below_then hbb Ua Ua.size)).alloc (below_then hbb Ua Ua.size).size (.cells #[.int .i64 0,.int .i64 0] 31)))
     have HBX:Hid (Below wk.heap.size wk (wb.alloc (.cells #[.int .i64 0,.int .i64 0] 31))):=Lib.hid (Tb.alloc Tb.size _)
     have hDB:=Tb.size
     obtain ⟨DB,hDBe⟩:∃ x,wb.heap.size=x:=⟨_,rfl⟩
     rw [hDBe] at HZ hDB
     try rw [hDBe]
     generalize wb.alloc (.cells #[.int .i64 0,.int .i64 0] 31)=wx at HZ HTX HBX hT ⊢
     clear hDBe
     have HZ:=Lib.hid (HZ.out)
     obtain ⟨z0,z1,z2,z3,z4⟩:=box2 HZ.out
     refine Till.step (i:=11) (by kernel_rfl) rfl ?_
     intro K hK
     go_simp
     have hBS:Below wk.heap.size wk ((wx.setCell ⟨DB,0,none⟩ (.int .i64 SD.1)).setCell ⟨DB,1,none⟩ (.int .i64 SD.2.1)):=((HBX.out).setCell (p:=⟨DB,0,none⟩) (hDB) _).setCell (p:=⟨DB,1,none⟩) (hDB) _
     have hT:=HSF2.out _ hBS
     refine hK.out _ _ (fun _=>hT) ?_
     clear hK K
     (try simp only [Act.put,Till.a,Till.b,Till.c])
     refine Till.step (i:=12) (by kernel_rfl) rfl ?_
     intro K hK
     go_simp
     refine hK.out _ _ (fun h=>absurd h (by decide)) ?_
     clear hK K
     (try simp only [Act.put,Till.a,Till.b,Till.c])
     refine Till.done (by kernel_rfl) ?_ _
     go_wp2_with fail
     go_meet
     exact ⟨DB,rfl,rfl,hDB,Lib.hid (heap_set (heap_set HZ.out 0 _) 1 _),Lib.hid (HTX.out.far2 HZ.out (by decide) (by decide) hDB)⟩
    ·intro KK hKK
     go_simp
     have hT:(fun w':World=>w'.cell? ⟨w.heap.size,0,none⟩=some (.int .u8 m)/\w'.cell? ⟨w.heap.size,1,none⟩=some (.int .u8 q)/\w'.cell? ⟨w.heap.size,2,none⟩=some (.slice A n cp)/\w'.cell? ⟨w.heap.size,3,none⟩=some (.string hd)/\w'.cell? ⟨w.heap.size,4,none⟩=some (.string tl)/\w'.cell? ⟨w.heap.size,5,none⟩=some (.string ct)/\w'.cell? ⟨w.heap.size,6,none⟩=some (.string sm)) (wa.alloc (.cells #[.int .i64 0,.int .i64 0] 31)):=HSF2.out _ (Ta.alloc Ta.size _)
     refine hKK.out _ _ (fun _=>hT) ?_
     clear hKK KK
     (try simp only [Act.put,Till.a,Till.b,Till.c])
     refine Till.step (i:=6) (by kernel_rfl) rfl ?_
     intro K hK
     go_simp
     (go_at_call 37;refine (HSU2.out Xa ca RAa RCa _ (HW2.out _ (Ta.alloc Ta.size _)).2.2.1 (hrma.below (by go_grown))).mono ?_;rintro _ wb ⟨rfl,hbb⟩;(have Tb:Below wk.heap.size wk wb:=below_then hbb (Ta.alloc Ta.size _) (Ta.alloc Ta.size _).size))
     have hT:=HSF2.out _ Tb
     refine hK.out _ _ (fun _=>hT) ?_
     clear hK K
     (try simp only [Act.put,Till.a,Till.b,Till.c])
     refine Till.tk (i:=7) (v:=?_) rfl [9] hT (Or.inl ⟨by rfl,?_⟩) ?_
     rotate_left
     ·(intro w' hw';obtain ⟨u0,u1,u2,u3,u4,u5,u6⟩:=hw';go_simp;try with_reducible rfl)
     (try simp only [Act.put,Till.a,Till.b,Till.c])
     refine Till.tk (i:=8) (v:=?_) rfl [11] hT (Or.inl ⟨by rfl,?_⟩) ?_
     rotate_left
     ·(intro w' hw';obtain ⟨u0,u1,u2,u3,u4,u5,u6⟩:=hw';go_simp;try with_reducible rfl)
     (try simp only [Act.put,Till.a,Till.b,Till.c])
     refine Till.tk (i:=9) (v:=?_) rfl [] hT (Or.inl ⟨by rfl,?_⟩) ?_
     rotate_left
     ·(intro w' hw';obtain ⟨u0,u1,u2,u3,u4,u5,u6⟩:=hw';go_simp;try with_reducible rfl)
     (try simp only [Act.put,Till.a,Till.b,Till.c])
     have HZ:=Lib.hid (heap_below (heap_new wa (.cells #[.int .i64 0,.int .i64 0] 31) rfl) hbb)
     obtain ⟨z0,z1,z2,z3,z4⟩:=box2 HZ.out
     refine Till.step (i:=11) (by kernel_rfl) rfl ?_
     intro K hK
     go_simp
     have hBS:Below wk.heap.size wk ((wb.setCell ⟨wa.heap.size,0,none⟩ (.int .i64 SD.1)).setCell ⟨wa.heap.size,1,none⟩ (.int .i64 SD.2.1)):=((Tb).setCell (p:=⟨wa.heap.size,0,none⟩) (Ta.size) _).setCell (p:=⟨wa.heap.size,1,none⟩) (Ta.size) _
     have hT:=HSF2.out _ hBS
     refine hK.out _ _ (fun _=>hT) ?_
     clear hK K
     (try simp only [Act.put,Till.a,Till.b,Till.c])
     refine Till.step (i:=12) (by kernel_rfl) rfl ?_
     intro K hK
     go_simp
     refine hK.out _ _ (fun h=>absurd h (by decide)) ?_
     clear hK K
     (try simp only [Act.put,Till.a,Till.b,Till.c])
     refine Till.done (by kernel_rfl) ?_ _
     go_wp2_with fail
     go_meet
     exact ⟨wa.heap.size,rfl,rfl,Ta.size,Lib.hid (heap_set (heap_set HZ.out 0 _) 1 _),Lib.hid ((HT1.out.below (below_then hbb (Ua.alloc Ua.size _) (Ua.alloc Ua.size _).size)).far2 HZ.out (by decide) (by decide) (Ta.size))⟩
   ·intro KK hKK
    go_simp
    have hBa:Below wk.heap.size wk (wc.alloc (.cells #[.int .i64 0,.int .i64 0] 31)).drew:=(HT1.out.bel.alloc HT1.out.bel.size _).drew
    have hT:=HSF2.out _ hBa
    refine hKK.out _ _ (fun _=>hT) ?_
    clear hKK KK
    (try simp only [Act.put,Till.a,Till.b,Till.c])
    refine Till.step (i:=3) (by kernel_rfl) rfl ?_
    intro K hK
    go_simp
    (go_at_call 34;refine (HIN2.out _ (HW2.out _ (hBa)).2.2.2.1).mono ?_;rintro _ wa ⟨Xa,ca,RAa,RCa,rfl,hrma,hba⟩;(have Ta:Below wk.heap.size wk wa:=below_then hba (hBa) (hBa).size);(have Ua:Below wc.heap.size wc wa:=below_then hba (((Below.refl wc.heap.size wc).alloc (Nat.le_refl _) _).drew) (((Below.refl wc.heap.size wc).alloc (Nat.le_refl _) _).drew).size))
    have hT:=HSF2.out _ Ta
    refine hK.out _ _ (fun _=>hT) ?_
    clear hK K
    (try simp only [Act.put,Till.a,Till.b,Till.c])
    refine Till.step (i:=6) (by kernel_rfl) rfl ?_
    intro K hK
    go_simp
    (go_at_call 37;refine (HSU2.out Xa ca RAa RCa _ (HW2.out _ Ta).2.2.1 hrma).mono ?_;rintro _ wb ⟨rfl,hbb⟩;(have Tb:Below wk.heap.size wk wb:=below_then hbb Ta Ta.size))
    have hT:=HSF2.out _ Tb
    refine hK.out _ _ (fun _=>hT) ?_
    clear hK K
    (try simp only [Act.put,Till.a,Till.b,Till.c])
    refine Till.tk (i:=7) (v:=?_) rfl [9] hT (Or.inl ⟨by rfl,?_⟩) ?_
    rotate_left
    ·(intro w' hw';obtain ⟨u0,u1,u2,u3,u4,u5,u6⟩:=hw';go_simp;try with_reducible rfl)
    (try simp only [Act.put,Till.a,Till.b,Till.c])
    refine Till.tk (i:=8) (v:=?_) rfl [11] hT (Or.inl ⟨by rfl,?_⟩) ?_
    rotate_left
    ·(intro w' hw';obtain ⟨u0,u1,u2,u3,u4,u5,u6⟩:=hw';go_simp;try with_reducible rfl)
    (try simp only [Act.put,Till.a,Till.b,Till.c])
    refine Till.tk (i:=9) (v:=?_) rfl [] hT (Or.inl ⟨by rfl,?_⟩) ?_
    rotate_left
    ·(intro w' hw';obtain ⟨u0,u1,u2,u3,u4,u5,u6⟩:=hw';go_simp;try with_reducible rfl)
    (try simp only [Act.put,Till.a,Till.b,Till.c])
    have HZ:=Lib.hid (heap_below (heap_below (show (wc.alloc (.cells #[.int .i64 0,.int .i64 0] 31)).drew.heap[wc.heap.size]?=_ from heap_new wc (.cells #[.int .i64 0,.int .i64 0] 31) rfl) hba) hbb)
    obtain ⟨z0,z1,z2,z3,z4⟩:=box2 HZ.out
    refine Till.step (i:=11) (by kernel_rfl) rfl ?_
    intro K hK
    go_simp
    have hBS:Below wk.heap.size wk ((wb.setCell ⟨wc.heap.size,0,none⟩ (.int .i64 SD.1)).setCell ⟨wc.heap.size,1,none⟩ (.int .i64 SD.2.1)):=((Tb).setCell (p:=⟨wc.heap.size,0,none⟩) (HT1.out.bel.size) _).setCell (p:=⟨wc.heap.size,1,none⟩) (HT1.out.bel.size) _
    have hT:=HSF2.out _ hBS
    refine hK.out _ _ (fun _=>hT) ?_
    clear hK K
    (try simp only [Act.put,Till.a,Till.b,Till.c])
    refine Till.step (i:=12) (by kernel_rfl) rfl ?_
    intro K hK
    go_simp
    refine hK.out _ _ (fun h=>absurd h (by decide)) ?_
    clear hK K
    (try simp only [Act.put,Till.a,Till.b,Till.c])
    refine Till.done (by kernel_rfl) ?_ _
    go_wp2_with fail
    go_meet
    exact ⟨wc.heap.size,rfl,rfl,HT1.out.bel.size,Lib.hid (heap_set (heap_set HZ.out 0 _) 1 _),Lib.hid ((HT1.out.below (below_then hbb Ua Ua.size)).far2 HZ.out (by decide) (by decide) (HT1.out.bel.size))⟩
  case rest=>
  clear HT1
  obtain ⟨DB,rfl,rfl,hDB,HD,HT2⟩:=hcut
  by_cases hse:SD.2.2=0
  case neg=>
   have HE:=Lib.hid (show R=([],SD.2.2) by rw [<- HR5.out,if_pos ⟨HSN.out,hse⟩])
   have h1:(SD.2.2 !=0)=true:=by simpa using hse
   have hB:=(HW2.out _ HT2.out.bel).2.2.2.2.2.2
   clear hse
   go_wp2
   go_ret2
   rw [HE.out]
   exact RetCD.no hB
  have h1:(SD.2.2 !=0)=false:=by rw [hse];rfl
  have HSE:=Lib.hid hse
  clear hse
  obtain ⟨TX,TC,t1,t2,t3,t4⟩:=HT2.out
  have hVL:V0.length=nf:=HT1'.out
  obtain ⟨nv,hnv⟩:∃ x,V0.length=x:=⟨_,rfl⟩
  obtain ⟨g,hg,hgb,hgs,hcells⟩:=own_rowF t3 (by omega)
  subst hg
  have HBW:=Lib.hid t4
  have HTBo:=Lib.hid t2;have HOWN:=Lib.hid t3;have HTB1:=Lib.hid t1;have HDB:=Lib.hid hDB
  rw [hnv] at HTBo HOWN
  have HNV:=Lib.hid hnv
  have hixv:IX<nv:=by omega
  clear t1 t2 t3 t4 hcells hnv hVL
  have HTD:=Lib.hid (fun wx=>told6_c SD.1 SD.2.1 wx)
  have HSF3:=Lib.hid (show ∀ wx,Below wc.heap.size wc wx->(fun w':World=>w'.cell? ⟨TB,1,none⟩=some (.slice (some ⟨g,0,none⟩) nv TC)/\w'.cell? ⟨KB,0,none⟩=some (.string kt)/\w'.cell? ⟨KB,1,none⟩=some (.slice KA nf KC)/\w'.cell? ⟨KB,2,none⟩=some (.int .i64 km)/\w'.cell? ⟨KB,3,none⟩=some (.string ku)/\w'.cell? ⟨w.heap.size,6,none⟩=some (.string sm)/\w'.cell? ⟨DB,0,none⟩=some (.int .i64 SD.1)/\w'.cell? ⟨DB,1,none⟩=some (.int .i64 SD.2.1)) wx from fun wx h=>by
   have hk:=below_then h HBW.out HBW.out.size
   obtain ⟨g1,g2,-⟩:=HW2.out wx hk
   obtain ⟨⟨-,-,-,-,-,-,a6⟩,-⟩:=obox7 g1
   obtain ⟨⟨b0,b1,b2,b3⟩,-,-⟩:=obox4 g2
   obtain ⟨-,c1,-,-,-⟩:=box2 (heap_below HTBo.out h)
   obtain ⟨d0,d1,-,-,-⟩:=box2 (heap_below HD.out h)
   exact ⟨c1,b0,b1,b2,b3,a6,d0,d1⟩)
  go_upto_region 23 with fail
  have hT:=HSF3.out _ (Below.refl _ _).drew
  refine region_till 9 (fun w':World=>w'.cell? ⟨TB,1,none⟩=some (.slice (some ⟨g,0,none⟩) nv TC)/\w'.cell? ⟨KB,0,none⟩=some (.string kt)/\w'.cell? ⟨KB,1,none⟩=some (.slice KA nf KC)/\w'.cell? ⟨KB,2,none⟩=some (.int .i64 km)/\w'.cell? ⟨KB,3,none⟩=some (.string ku)/\w'.cell? ⟨w.heap.size,6,none⟩=some (.string sm)/\w'.cell? ⟨DB,0,none⟩=some (.int .i64 SD.1)/\w'.cell? ⟨DB,1,none⟩=some (.int .i64 SD.2.1)) (by kernel_rfl) ?_
  refine Till.tk (i:=0) (v:=?_) rfl [1,8] hT (Or.inl ⟨by rfl,?_⟩) ?_
  rotate_left
  ·(intro w' hw';obtain ⟨u0,u1,u2,u3,u4,u5,u6,u7⟩:=hw';go_simp;try with_reducible rfl)
  (try simp only [Act.put,Till.a,Till.b,Till.c])
  refine Till.tk (i:=1) (v:=?_) rfl [8] hT (Or.inl ⟨by rfl,?_⟩) ?_
  rotate_left
  ·(intro w' hw';obtain ⟨u0,u1,u2,u3,u4,u5,u6,u7⟩:=hw';go_simp;try with_reducible rfl)
  (try simp only [Act.put,Till.a,Till.b,Till.c])
  refine Till.tk (i:=2) (v:=?_) rfl [5,7] hT (Or.inl ⟨by rfl,?_⟩) ?_
  rotate_left
  ·(intro w' hw';obtain ⟨u0,u1,u2,u3,u4,u5,u6,u7⟩:=hw';go_simp;try with_reducible rfl)
  (try simp only [Act.put,Till.a,Till.b,Till.c])
  refine Till.tk (i:=3) (v:=?_) rfl [4,5,7] hT (Or.inl ⟨by rfl,?_⟩) ?_
  rotate_left
  ·(intro w' hw';obtain ⟨u0,u1,u2,u3,u4,u5,u6,u7⟩:=hw';go_simp;try with_reducible rfl)
  (try simp only [Act.put,Till.a,Till.b,Till.c])
  refine Till.tk (i:=4) (v:=?_) rfl [5,7] hT (Or.inl ⟨by rfl,?_⟩) ?_
  rotate_left
  ·(intro w' hw';obtain ⟨u0,u1,u2,u3,u4,u5,u6,u7⟩:=hw';go_simp;try with_reducible rfl)
  (try simp only [Act.put,Till.a,Till.b,Till.c])
  refine Till.tk (i:=6) (v:=?_) rfl [7] hT (Or.inl ⟨by rfl,?_⟩) ?_
  rotate_left
  ·(intro w' hw';obtain ⟨u0,u1,u2,u3,u4,u5,u6,u7⟩:=hw';go_simp;try with_reducible rfl)
  (try simp only [Act.put,Till.a,Till.b,Till.c])
  refine Till.step (i:=5) (by kernel_rfl) rfl ?_
  intro K hK
  go_simp
  (go_at_call 39;refine (HCS.out _ (HW2.out _ HBW.out.drew).2.2.2.2.2.1).mono ?_;rintro _ wa ⟨rfl,hba⟩;(have Ua:Below wc.heap.size wc wa:=⟨hba.os,hba.tape,hba.output,hba.size,hba.block⟩))
  have hT:=HSF3.out _ Ua
  refine hK.out _ _ (fun _=>hT) ?_
  clear hK K
  (try simp only [Act.put,Till.a,Till.b,Till.c])
  refine Till.step (i:=7) (by kernel_rfl) rfl ?_
  intro K hK
  go_simp
  (go_at_call 38;refine (HTD.out _).mono ?_;rintro _ wb ⟨sv,rfl,hsv,hbb⟩;(have Ub:Below wc.heap.size wc wb:=below_then hbb Ua Ua.size))
  have hT:=HSF3.out _ Ub
  refine hK.out _ _ (fun _=>hT) ?_
  clear hK K
  (try simp only [Act.put,Till.a,Till.b,Till.c])
  have hbv:(IX:Int)<(nv:Int):=by omega
  have hb0:(0:Int)<=(IX:Int):=by omega
  refine Till.step (i:=8) (by kernel_rfl) rfl ?_
  intro K hK
  go_simp
  refine hK.out _ _ (fun _=>hT) ?_
  clear hK K
  (try simp only [Act.put,Till.a,Till.b,Till.c])
  have HOb:=Lib.hid (own_below HOWN.out Ub)
  have hcb:=HOb.out.cellAt IX (by omega)
  have hfz:=HOb.out.frozenAt IX
  rw [ystrV_get (by rw [HNV.out];exact hixv)] at hcb
  refine Till.step (i:=9) (by kernel_rfl) rfl ?_
  intro K hK
  go_simp
  refine hK.out _ _ (fun h=>absurd h (by decide)) ?_
  clear hK K
  (try simp only [Act.put,Till.a,Till.b,Till.c])
  refine Till.done (by kernel_rfl) ?_ _
  have HSV:=Lib.hid (show V1=V0.set IX sv by rw [HE1.out,bs_of hsv])
  have HTF:=Lib.hid (show TailSt wk (wb.setCell ⟨g,IX,none⟩ (.string sv)) TB tl V1 by
   rw [HSV.out]
   refine TailSt.put HTB1.out (TC:=TC) ?_ ?_ (below_then Ub HBW.out HBW.out.size) (by rw [HNV.out];exact hixv)
   ·rw [HNV.out];exact heap_below HTBo.out Ub
   ·rw [HNV.out];exact HOb.out)
  clear hT hcb hfz Ub Ua hba hbb hsv
  go_wp2_with fail
  go_meet
  exact Lib.hid ⟨fun _=>HSE.out,HTF.out⟩
 case rest=>
 clear HT1
 obtain ⟨HSO,HT2⟩:=hcut.out
 have HR6:=Lib.hid ((if_neg (c:=sm≠⟨#[]⟩/\SD.2.2≠0) (fun h=>h.2 (HSO h.1))).symm.trans HR5.out)
 have HT2:=Lib.hid HT2
 clear hcut HSO HR5 HS0 HSU
 obtain ⟨q1,-,-,-,-,-,-⟩:=HW2.out _ HT2.out.bel
 obtain ⟨⟨p0,p1,p2,p3,p4,p5,p6⟩,-⟩:=obox7 q1
 have e5:=emp_dec ct
 obtain ⟨S0,hS0⟩:∃ x,decide (ct=⟨#[]⟩)=x:=⟨_,rfl⟩
 rw [hS0] at e5
 have HS0:=Lib.hid hS0
 clear q1 hS0
 go_upto_if 113 with fail
 clear p0 p1 p2 p3 p4 p5 p6 e5
 go_cut [] (fun wx=>Hid (TailSt wk wx TB tl V2))
 case first=>
  cases hS:S0 with
  | true=>
   have hse:=of_decide_eq_true (HS0.out.trans hS)
   have HE1:=Lib.hid (show V2=V1 by rw [HV2.out,if_neg (fun h=>h hse)])
   clear hS hse
   go_wp2_with fail
   go_meet
   exact Lib.hid (by rw [HE1.out];exact HT2.out)
  | false=>
  have hsn:=of_decide_eq_false (HS0.out.trans hS)
  have hix:=HIXL.out ct (HEN2.out.2.2.2.2.1 hsn)
  have hix0:=(HEN2.out.2.2.2.2.1 hsn)
  have HE1:=HV2.out
  rw [if_pos hsn] at HE1
  obtain ⟨IX,hIX⟩:∃ x,(ixF (nameIs ct) fs).toNat=x:=⟨_,rfl⟩
  have hIXe:ixF (nameIs ct) fs=(IX:Int):=by omega
  rw [hIX] at hix HE1
  have HCS:=Lib.hid (fun wx h=>HCA.out ct wx h)
  rw [hIXe] at HCS
  have HE1:=Lib.hid HE1
  have hixl:IX<nf:=hix.1
  clear hS hsn hix hix0 hIX hIXe
  obtain ⟨TX,TC,t1,t2,t3,t4⟩:=HT2.out
  have hVL:V1.length=nf:=by
   rw [HV1.out]
   split
   ·rw [List.length_set];exact HT1'.out
   ·exact HT1'.out
  obtain ⟨nv,hnv⟩:∃ x,V1.length=x:=⟨_,rfl⟩
  obtain ⟨g,hg,hgb,hgs,hcells⟩:=own_rowF t3 (by omega)
  subst hg
  have HBW:=Lib.hid t4
  have HTBo:=Lib.hid t2;have HOWN:=Lib.hid t3;have HTB1:=Lib.hid t1
  rw [hnv] at HTBo HOWN
  have HNV:=Lib.hid hnv
  have hixv:IX<nv:=by omega
  clear t1 t2 t3 t4 hcells hnv hVL
  obtain ⟨ni,hni⟩:∃ x,IN.length=x:=⟨_,rfl⟩
  have HNI:=Lib.hid hni
  have hni2:ni<=2000:=by have:=HIL.out;omega
  have HIT:=Lib.hid (fun wx h=>vitoas_c (ni:Int) wx (by omega) h)
  have HIN3:=HIN2
  rw [hni] at HIN3
  clear hni
  have HSF3:=Lib.hid (show ∀ wx,Below wc.heap.size wc wx->(fun w':World=>w'.cell? ⟨TB,1,none⟩=some (.slice (some ⟨g,0,none⟩) nv TC)/\w'.cell? ⟨KB,0,none⟩=some (.string kt)/\w'.cell? ⟨KB,1,none⟩=some (.slice KA nf KC)/\w'.cell? ⟨KB,2,none⟩=some (.int .i64 km)/\w'.cell? ⟨KB,3,none⟩=some (.string ku)/\w'.cell? ⟨w.heap.size,0,none⟩=some (.int .u8 m)/\w'.cell? ⟨w.heap.size,1,none⟩=some (.int .u8 q)/\w'.cell? ⟨w.heap.size,2,none⟩=some (.slice A n cp)/\w'.cell? ⟨w.heap.size,3,none⟩=some (.string hd)/\w'.cell? ⟨w.heap.size,4,none⟩=some (.string tl)/\w'.cell? ⟨w.heap.size,5,none⟩=some (.string ct)/\w'.cell? ⟨w.heap.size,6,none⟩=some (.string sm)) wx from fun wx h=>by
   have hk:=below_then h HBW.out HBW.out.size
   obtain ⟨g1,g2,-⟩:=HW2.out wx hk
   obtain ⟨⟨a0,a1,a2,a3,a4,a5,a6⟩,-⟩:=obox7 g1
   obtain ⟨⟨b0,b1,b2,b3⟩,-,-⟩:=obox4 g2
   obtain ⟨-,c1,-,-,-⟩:=box2 (heap_below HTBo.out h)
   exact ⟨c1,b0,b1,b2,b3,a0,a1,a2,a3,a4,a5,a6⟩)
  go_upto_region 25 with fail
  have hT:=HSF3.out _ (Below.refl _ _).drew
  refine region_till 12 (fun w':World=>w'.cell? ⟨TB,1,none⟩=some (.slice (some ⟨g,0,none⟩) nv TC)/\w'.cell? ⟨KB,0,none⟩=some (.string kt)/\w'.cell? ⟨KB,1,none⟩=some (.slice KA nf KC)/\w'.cell? ⟨KB,2,none⟩=some (.int .i64 km)/\w'.cell? ⟨KB,3,none⟩=some (.string ku)/\w'.cell? ⟨w.heap.size,0,none⟩=some (.int .u8 m)/\w'.cell? ⟨w.heap.size,1,none⟩=some (.int .u8 q)/\w'.cell? ⟨w.heap.size,2,none⟩=some (.slice A n cp)/\w'.cell? ⟨w.heap.size,3,none⟩=some (.string hd)/\w'.cell? ⟨w.heap.size,4,none⟩=some (.string tl)/\w'.cell? ⟨w.heap.size,5,none⟩=some (.string ct)/\w'.cell? ⟨w.heap.size,6,none⟩=some (.string sm)) (by kernel_rfl) ?_
  refine Till.tk (i:=0) (v:=?_) rfl [1,11] hT (Or.inl ⟨by rfl,?_⟩) ?_
  rotate_left
  ·(intro w' hw';obtain ⟨u0,u1,u2,u3,u4,u5,u6,u7,u8,u9,u10,u11⟩:=hw';go_simp;try with_reducible rfl)
  (try simp only [Act.put,Till.a,Till.b,Till.c])
  refine Till.tk (i:=1) (v:=?_) rfl [11] hT (Or.inl ⟨by rfl,?_⟩) ?_
  rotate_left
  ·(intro w' hw';obtain ⟨u0,u1,u2,u3,u4,u5,u6,u7,u8,u9,u10,u11⟩:=hw';go_simp;try with_reducible rfl)
  (try simp only [Act.put,Till.a,Till.b,Till.c])
  refine Till.tk (i:=2) (v:=?_) rfl [5,11] hT (Or.inl ⟨by rfl,?_⟩) ?_
  rotate_left
  ·(intro w' hw';obtain ⟨u0,u1,u2,u3,u4,u5,u6,u7,u8,u9,u10,u11⟩:=hw';go_simp;try with_reducible rfl)
  (try simp only [Act.put,Till.a,Till.b,Till.c])
  refine Till.tk (i:=3) (v:=?_) rfl [4,5,11] hT (Or.inl ⟨by rfl,?_⟩) ?_
  rotate_left
  ·(intro w' hw';obtain ⟨u0,u1,u2,u3,u4,u5,u6,u7,u8,u9,u10,u11⟩:=hw';go_simp;try with_reducible rfl)
  (try simp only [Act.put,Till.a,Till.b,Till.c])
  refine Till.tk (i:=4) (v:=?_) rfl [5,11] hT (Or.inl ⟨by rfl,?_⟩) ?_
  rotate_left
  ·(intro w' hw';obtain ⟨u0,u1,u2,u3,u4,u5,u6,u7,u8,u9,u10,u11⟩:=hw';go_simp;try with_reducible rfl)
  (try simp only [Act.put,Till.a,Till.b,Till.c])
  refine Till.tk (i:=6) (v:=?_) rfl [8,10] hT (Or.inl ⟨by rfl,?_⟩) ?_
  rotate_left
  ·(intro w' hw';obtain ⟨u0,u1,u2,u3,u4,u5,u6,u7,u8,u9,u10,u11⟩:=hw';go_simp;try with_reducible rfl)
  (try simp only [Act.put,Till.a,Till.b,Till.c])
  refine Till.tk (i:=7) (v:=?_) rfl [8,10] hT (Or.inl ⟨by rfl,?_⟩) ?_
  rotate_left
  ·(intro w' hw';obtain ⟨u0,u1,u2,u3,u4,u5,u6,u7,u8,u9,u10,u11⟩:=hw';go_simp;try with_reducible rfl)
  (try simp only [Act.put,Till.a,Till.b,Till.c])
  refine Till.step (i:=5) (by kernel_rfl) rfl ?_
  intro K hK
  go_simp
  (go_at_call 39;refine (HCS.out _ (HW2.out _ HBW.out.drew).2.2.2.2.2.1).mono ?_;rintro _ wa ⟨rfl,hba⟩;(have Ua:Below wc.heap.size wc wa:=⟨hba.os,hba.tape,hba.output,hba.size,hba.block⟩))
  have hT:=HSF3.out _ Ua
  refine hK.out _ _ (fun _=>hT) ?_
  clear hK K
  (try simp only [Act.put,Till.a,Till.b,Till.c])
  refine Till.step (i:=8) (by kernel_rfl) rfl ?_
  intro K hK
  go_simp
  (go_at_call 34;refine (HIN3.out _ (HW2.out _ (below_then Ua HBW.out HBW.out.size)).2.2.2.1).mono ?_;rintro _ wb ⟨Xb,cb,RAb,RCb,rfl,-,hbb⟩;(have Ub:Below wc.heap.size wc wb:=below_then hbb Ua Ua.size))
  have hT:=HSF3.out _ Ub
  refine hK.out _ _ (fun _=>hT) ?_
  clear hK K
  (try simp only [Act.put,Till.a,Till.b,Till.c])
  refine Till.tk (i:=9) (v:=?_) rfl [10] hT (Or.inl ⟨by rfl,?_⟩) ?_
  rotate_left
  ·(intro w' hw';obtain ⟨u0,u1,u2,u3,u4,u5,u6,u7,u8,u9,u10,u11⟩:=hw';go_simp;try with_reducible rfl)
  (try simp only [Act.put,Till.a,Till.b,Till.c])
  refine Till.step (i:=10) (by kernel_rfl) rfl ?_
  intro K hK
  go_simp
  (go_at_call 19;refine (HIT.out _ (HW2.out _ (below_then Ub HBW.out HBW.out.size)).2.2.2.2.1).mono ?_;rintro _ wd ⟨rfl,hbd⟩;(have Ud:Below wc.heap.size wc wd:=below_then hbd Ub Ub.size))
  have hT:=HSF3.out _ Ud
  refine hK.out _ _ (fun _=>hT) ?_
  clear hK K
  (try simp only [Act.put,Till.a,Till.b,Till.c])
  have hbv:(IX:Int)<(nv:Int):=by omega
  have hb0:(0:Int)<=(IX:Int):=by omega
  refine Till.step (i:=11) (by kernel_rfl) rfl ?_
  intro K hK
  go_simp
  refine hK.out _ _ (fun _=>hT) ?_
  clear hK K
  (try simp only [Act.put,Till.a,Till.b,Till.c])
  have HOb:=Lib.hid (own_below HOWN.out Ud)
  have hcb:=HOb.out.cellAt IX (by omega)
  have hfz:=HOb.out.frozenAt IX
  rw [ystrV_get (by rw [HNV.out];exact hixv)] at hcb
  refine Till.step (i:=12) (by kernel_rfl) rfl ?_
  intro K hK
  go_simp
  refine hK.out _ _ (fun h=>absurd h (by decide)) ?_
  clear hK K
  (try simp only [Act.put,Till.a,Till.b,Till.c])
  refine Till.done (by kernel_rfl) ?_ _
  have HSV:=Lib.hid (show V2=V1.set IX ⟨(Lib.itoa (ni:Int)).toArray⟩ by rw [HE1.out,HNI.out];rfl)
  have HTF:=Lib.hid (show TailSt wk (wd.setCell ⟨g,IX,none⟩ (.string ⟨(Lib.itoa (ni:Int)).toArray⟩)) TB tl V2 by
   rw [HSV.out]
   refine TailSt.put HTB1.out (TC:=TC) ?_ ?_ (below_then Ud HBW.out HBW.out.size) (by rw [HNV.out];exact hixv)
   ·rw [HNV.out];exact heap_below HTBo.out Ud
   ·rw [HNV.out];exact HOb.out)
  clear hT hcb hfz Ub Ua Ud hba hbb hbd
  go_wp2_with fail
  go_meet
  exact HTF
 case rest=>
 clear HT2
 have HT3:=hcut
 clear hcut
 obtain ⟨TX,TC,t1,t2,t3,t4⟩:=HT3.out
 have HV2S:=Lib.hid (HVS.out 9223372036854775807 (fun s hs=>by
  have hv:=HV0'.out
  rw [hv] at hs
  split at hs
  ·rename_i hlb
   have h0:0<nr:=by
    have hla:=HLA'.out
    rw [hlb] at hla
    rcases Nat.eq_zero_or_pos nr with h | h
    ·rw [decide_eq_false (by omega)] at hla;cases hla
    ·exact h
   exact ((HW2.out _ HT3.out.bel).2.2.2.1.each (nr-1) (by rw [HNR.out];omega)).size s hs
  ·rw [(List.mem_replicate.1 hs).2]
   exact Nat.zero_le _) HS1.out (HS2.out (Nat.le_trans HIL.out hnr)))
 have HRS:=Lib.hid (own_rowS (r:=⟨tl,V2⟩) t3 HV2S.out (by have:=HTZ.out;show tl.size<=_;omega))
 obtain ⟨nv,hnv⟩:∃ x,V2.length=x:=⟨_,rfl⟩
 have HTBo:=Lib.hid t2;have HBW:=Lib.hid t4;have HTB1:=Lib.hid t1
 rw [hnv] at HTBo
 have HCW2:=Lib.hid (fun wx h h2 ht=>HCW.out trivial V2 TX TC wx h h2 ht)
 have hwe:=HWE.out
 rw [hwe] at HCW2
 unfold rowG at HCW2
 simp only at HCW2
 rw [hnv] at HCW2
 have HNV:=Lib.hid hnv
 clear t1 t2 t3 t4 hnv hwe
 obtain ⟨q1,-,qk,-,qt,-,qb⟩:=HW2.out _ HBW.out
 obtain ⟨⟨p0,p1,p2,p3,p4,p5,p6⟩,-⟩:=obox7 q1
 obtain ⟨r0,r1,-,-,-⟩:=box2 HTBo.out
 go_wp2_with fail
 refine (HCW2.out _ qk HRS.out.rowM qt).mono ?_
 rintro _ w8 ⟨rfl,hb8⟩
 have HB8:=Lib.hid (below_then hb8 HBW.out HBW.out.size)
 have HT8:=Lib.hid (heap_below HTBo.out hb8)
 have HRS8:=Lib.hid (show RowS w8 ⟨tl,V2⟩ TX TC from ⟨HRS.out.vals.below hb8,HRS.out.len,HRS.out.size,HRS.out.tag⟩)
 clear q1 qk qt qb p0 p1 p2 p3 p4 p5 p6 r0 r1 hb8 HTBo HBW HRS HT3
 obtain ⟨q1,-,-,ql,-,-,qb⟩:=HW2.out _ HB8.out
 by_cases hwe:WE=0
 case neg=>
  have HE:=Lib.hid (show R=([],WE) by rw [<- HR6.out,if_pos hwe])
  have h1:(WE !=0)=true:=by simpa using hwe
  clear hwe q1 ql
  go_wp2
  go_ret2
  rw [HE.out]
  exact RetCD.no qb
 have HR7:=Lib.hid ((if_neg (fun h=>h hwe)).symm.trans HR6.out)
 have h1:(WE !=0)=false:=by rw [hwe];rfl
 have hq2:nq<=2000:=by have:=HQL.out;omega
 have HLR:=Lib.hid (HRM.out)
 clear HR6 q1 ql qb hwe
 have HCL:=Lib.hid (fun wx h=>clonerows_c L LC RL RA RC wx h (by rw [HNQ.out];exact hq2) (by rw [HNQ.out];exact HR0.out HFM.out trivial))
 unfold RetCl at HCL
 rw [HNQ.out] at HCL
 have hzt:TB<w8.heap.size:=lt_heap HT8.out
 have HSF3:=Lib.hid (show ∀ wx,Below w8.heap.size w8 wx->(fun w':World=>w'.cell? ⟨TB,0,none⟩=some (.string tl)/\w'.cell? ⟨TB,1,none⟩=some (.slice TX nv TC)) wx from fun wx h=>by
  obtain ⟨c0,c1,-,-,-⟩:=box2 (heap_below HT8.out h)
  exact ⟨c0,c1⟩)
 obtain ⟨i0,hi,hz0,hz1,hz2⟩:=info_parts Tryz.infoRow
 have HI:=Lib.hid hi;have HZ0:=Lib.hid hz0;have HZ1:=Lib.hid hz1;have HZ2:=Lib.hid hz2
 clear hi hz0 hz1 hz2 hzt
 go_upto_region 29 with fail
 go_cut [18] (fun v wx=>∃ X c,v=.slice X (nq+1) c/\(nq+1<=c/\c<=9223372036854775807)/\Hid (∃ RA' RC',RowsM wx X (RL++[⟨tl,V2⟩]) RA' RC')/\Hid (Below w.heap.size w wx))
 case first=>
  have hT:=HSF3.out _ (Below.refl _ _).drew
  refine region_till 5 (fun w':World=>w'.cell? ⟨TB,0,none⟩=some (.string tl)/\w'.cell? ⟨TB,1,none⟩=some (.slice TX nv TC)) (by kernel_rfl) ?_
  refine Till.tk (i:=0) (v:=?_) rfl [1,4] hT (Or.inl ⟨by rfl,?_⟩) ?_
  rotate_left
  ·(intro w' hw';obtain ⟨u0,u1⟩:=hw';go_simp;try with_reducible rfl)
  (try simp only [Act.put,Till.a,Till.b,Till.c])
  refine Till.tk (i:=2) (v:=?_) rfl [3,4] hT (Or.inl ⟨by rfl,?_⟩) ?_
  rotate_left
  ·(intro w' hw';obtain ⟨u0,u1⟩:=hw';go_simp;try with_reducible rfl)
  (try simp only [Act.put,Till.a,Till.b,Till.c])
  refine Till.forkC (i:=1) (j:=3) (by kernel_rfl) rfl rfl ?_ ?_
  ·intro KK hKK
   go_simp
   (go_at_call 41;refine (HCL.out _ (HRM.out _ (HW2.out _ HB8.out.drew).2.2.2.1)).mono ?_;rintro _ wa ⟨Xa,ca,rfl,hra⟩;(have Ua:Below w8.heap.size w8 wa:=⟨hra.bel.os,hra.bel.tape,hra.bel.output,hra.bel.size,hra.bel.block⟩))
   have hT:=HSF3.out _ Ua
   refine hKK.out _ _ (fun _=>hT) ?_
   clear hKK KK
   (try simp only [Act.put,Till.a,Till.b,Till.c])
   obtain ⟨RAa,RCa,a1,a2,a3,a4⟩:=hra
   have HRSa:=Lib.hid (show RowS wa ⟨tl,V2⟩ TX TC from ⟨HRS8.out.vals.below Ua,HRS8.out.len,HRS8.out.size,HRS8.out.tag⟩)
   have HBb:=Lib.hid HB8.out.drew
   have HUb:=Lib.hid ((Below.refl w8.heap.size w8).drew)
   have hzA:w8.drew.heap.size<=wa.heap.size:=a4.size
   refine Till.step (i:=3) (by kernel_rfl) rfl ?_
   intro K hK
   go_simp
   have hT:(fun w':World=>w'.cell? ⟨TB,0,none⟩=some (.string tl)/\w'.cell? ⟨TB,1,none⟩=some (.slice TX nv TC)) (wa.alloc (.cells #[.string tl,.slice TX nv TC] 39)):=HSF3.out _ (Ua.alloc Ua.size _)
   refine hK.out _ _ (fun _=>hT) ?_
   clear hK K
   (try simp only [Act.put,Till.a,Till.b,Till.c])
   refine Till.step (i:=4) (by kernel_rfl) rfl ?_
   intro K hK
   refine step_append_lies _ rfl (.tmp 136) (.tmp 138) 28 rfl w8.drew.heap.size 39 i0 (.agg #[.string ⟨#[]⟩,.slice none 0 0]) 2 40 Tryz.underlying28 HI.out HZ0.out HZ1.out HZ2.out rfl (by decide) (.slice Xa nq ca) nq (rowsC 2 nq (rowV RL RAa RCa)) rfl (by exact a2.alloc (.cells #[.string tl,.slice TX nv TC] 39)) ⟨wa.heap.size,0,none⟩ 1 1 [.string tl,.slice TX nv TC] rfl rfl (by exact k_cellsF wa [.string tl,.slice TX nv TC] 39) (by intro u hu;simp at hu;rcases hu with rfl | rfl<;>rfl) (by decide) (by unfold maxLen;omega) (by omega) (by simp;exact Nat.le_succ_of_le hzA) _ rfl ?_
   intro G cap w9 hown9 hg9 hat9 hlt9
   have hg9:wa.grownBy w9 (Value.slice Xa nq ca).ownBlock:=grown_alloc hg9
   have HRO:=Lib.hid (RwsO.push a1 a2 a3 a4 HRSa.out (by unfold rwL;simp only;rw [HNV.out];exact hown9) hg9)
   have HB9:=Lib.hid (below_then HRO.out.bel HBb.out HBb.out.size)
   have hT:=HSF3.out _ (below_then HRO.out.bel HUb.out HUb.out.size)
   refine hK.out _ _ (fun _=>hT) ?_
   clear hK K hown9 hg9 hat9 hlt9 a1 a2 a3 a4 hT
   (try simp only [Act.put,Till.a,Till.b,Till.c])
   refine Till.step (i:=5) (by kernel_rfl) rfl ?_
   intro K hK
   go_simp
   refine hK.out _ _ (fun h=>absurd h (by decide)) ?_
   clear hK K
   (try simp only [Act.put,Till.a,Till.b,Till.c])
   refine Till.done (by kernel_rfl) ?_ _
   go_wp2_with fail
   go_meet
   exact ⟨some ⟨G,0,none⟩,cap,rfl,HRO.out.cap,Lib.hid HRO.out.rowsM,Lib.hid (HW2.out _ HB9.out).2.2.2.2.2.2⟩
  ·intro KK hKK
   go_simp
   have hBa:Below w8.heap.size w8 (w8.alloc (.cells #[.string tl,.slice TX nv TC] 39)).drew:=((Below.refl w8.heap.size w8).alloc (Nat.le_refl _) _).drew
   have hT:=HSF3.out _ hBa
   refine hKK.out _ _ (fun _=>hT) ?_
   clear hKK KK
   (try simp only [Act.put,Till.a,Till.b,Till.c])
   refine Till.step (i:=1) (by kernel_rfl) rfl ?_
   intro K hK
   go_simp
   (go_at_call 41;refine (HCL.out _ (HRM.out _ (HW2.out _ (below_then hBa HB8.out HB8.out.size)).2.2.2.1)).mono ?_;rintro _ wa ⟨Xa,ca,rfl,hra⟩;(have Ua:Below w8.heap.size w8 wa:=below_then hra.bel hBa hBa.size))
   have hT:=HSF3.out _ Ua
   refine hK.out _ _ (fun _=>hT) ?_
   clear hK K
   (try simp only [Act.put,Till.a,Till.b,Till.c])
   obtain ⟨RAa,RCa,a1,a2,a3,a4⟩:=hra
   have HRSa:=Lib.hid (show RowS wa ⟨tl,V2⟩ TX TC from ⟨HRS8.out.vals.below Ua,HRS8.out.len,HRS8.out.size,HRS8.out.tag⟩)
   have HBb:=Lib.hid (below_then hBa HB8.out HB8.out.size)
   have HUb:=Lib.hid hBa
   have HNB:=Lib.hid (heap_below (show (w8.alloc (.cells #[.string tl,.slice TX nv TC] 39)).drew.heap[w8.heap.size]?=some (.cells #[.string tl,.slice TX nv TC] 39 (0,0)) from heap_new w8 (.cells #[.string tl,.slice TX nv TC] 39) rfl) a4)
   have hzA:(w8.alloc (.cells #[.string tl,.slice TX nv TC] 39)).drew.heap.size<=wa.heap.size:=a4.size
   refine Till.step (i:=4) (by kernel_rfl) rfl ?_
   intro K hK
   refine step_append_lies _ rfl (.tmp 136) (.tmp 138) 28 rfl (w8.alloc (.cells #[.string tl,.slice TX nv TC] 39)).drew.heap.size 39 i0 (.agg #[.string ⟨#[]⟩,.slice none 0 0]) 2 40 Tryz.underlying28 HI.out HZ0.out HZ1.out HZ2.out rfl (by decide) (.slice Xa nq ca) nq (rowsC 2 nq (rowV RL RAa RCa)) rfl (by exact a2) ⟨w8.heap.size,0,none⟩ 1 1 [.string tl,.slice TX nv TC] rfl rfl (by exact World.news_of_block (cs:=#[.string tl,.slice TX nv TC]) (t:=39) (fr:=(0,0)) HNB.out) (by intro u hu;simp at hu;rcases hu with rfl | rfl<;>rfl) (by decide) (by unfold maxLen;omega) (by omega) (by exact hzA) _ rfl ?_
   intro G cap w9 hown9 hg9 hat9 hlt9
   have hg9:wa.grownBy w9 (Value.slice Xa nq ca).ownBlock:=hg9
   have HRO:=Lib.hid (RwsO.push a1 a2 a3 a4 HRSa.out (by unfold rwL;simp only;rw [HNV.out];exact hown9) hg9)
   have HB9:=Lib.hid (below_then HRO.out.bel HBb.out HBb.out.size)
   have hT:=HSF3.out _ (below_then HRO.out.bel HUb.out HUb.out.size)
   refine hK.out _ _ (fun _=>hT) ?_
   clear hK K hown9 hg9 hat9 hlt9 a1 a2 a3 a4 hT
   (try simp only [Act.put,Till.a,Till.b,Till.c])
   refine Till.step (i:=5) (by kernel_rfl) rfl ?_
   intro K hK
   go_simp
   refine hK.out _ _ (fun h=>absurd h (by decide)) ?_
   clear hK K
   (try simp only [Act.put,Till.a,Till.b,Till.c])
   refine Till.done (by kernel_rfl) ?_ _
   go_wp2_with fail
   go_meet
   exact ⟨some ⟨G,0,none⟩,cap,rfl,HRO.out.cap,Lib.hid HRO.out.rowsM,Lib.hid (HW2.out _ HB9.out).2.2.2.2.2.2⟩
 case rest=>
 obtain ⟨X,c,rfl,hcap,HRX,HBX⟩:=hcut
 have HCAP:=Lib.hid hcap
 clear hcap
 by_cases hlg:2000<nq+1
 ·have HE:=Lib.hid (show R=([],2) by rw [<- HR7.out,if_pos hlg])
  have h3:(2000:Int)<(nq:Int)+1:=by omega
  clear hlg
  go_wp2
  go_ret2
  rw [HE.out]
  exact RetCD.no HBX.out
 ·have HE:=Lib.hid (show R=(RL++[⟨tl,V2⟩],0) by rw [<- HR7.out,if_neg hlg])
  have h3:¬ (2000:Int)<(nq:Int)+1:=by omega
  clear hlg
  go_wp2
  go_ret2
  rw [HE.out]
  have HLN:=Lib.hid (show ((RL++[⟨tl,V2⟩],(0:Int)):List RowP×Int).1.length=nq+1 by rw [<- HNQ.out];simp)
  refine ⟨X,c,?_,HRX.out,by rw [HLN.out];exact HCAP.out,HBX.out⟩
  rw [HLN.out]
  rfl
end Go.Proofs.YtbfbgappinilmaaGreatDoor
