/- The walks of slices.Clone at rows of strings and at rows; of inner and sumFault; of cloneRows. -/
import Derived.Test.YtbfbgappinilmaaGreatDoorY1
import Derived.Test.YtbfbgappinilmaaGreatDoorZA
import Derived.Test.YtbfbgappinilmaaGreatDoorZD
import Derived.Test.YtbfbgappinilmaaGreatDoorYP
import Derived.Test.YtbfbgappinilmaaGreatDoorG1
namespace Go.Proofs.YtbfbgappinilmaaGreatDoor
open Go.RowKit Limb Nmb Work
theorem ystrV_get {L:List ByteArray} {j:Nat} (h:j<L.length):(ystrV L)[j]?=some (.string (wd L j)):=by
 unfold ystrV wd;simp [List.getD_eq_getElem?_getD,h]
theorem ystrV_len (L:List ByteArray):(ystrV L).length=L.length:=by unfold ystrV;simp
theorem ystrV_one (L:List ByteArray):∀ u∈ystrV L,u.oneCell'=true:=by
 intro u hu;unfold ystrV at hu;obtain ⟨y,-,rfl⟩:=List.mem_map.1 hu;rfl
theorem rowsV_one (n:Nat) (l:List RowP) (RA:Nat->Option Addr) (RC:Nat->Nat):∀ u∈rowsC 2 n (rowV l RA RC),u.oneCell'=true:=by
 intro u hu
 unfold rowsC at hu
 obtain ⟨j,-,hj⟩:=List.mem_flatMap.1 hu
 obtain ⟨i,-,rfl⟩:=List.mem_map.1 hj
 unfold rowV
 split<;>rfl
theorem lit_own (w:World) (T:TypeId) (k:Nat):(w.alloc (.cells #[] T)).ownsRow w.heap.size T k (.slice (some ⟨w.heap.size,0,none⟩) 0 0) 0 []:=World.ownsRow_lit w #[] 0 (Nat.le_refl _) (by unfold maxLen;omega) (by simp)
def RetCS (L:List ByteArray) (w:World) (e:Ending) (w':World):Prop:=∃ X d,e=.returned (.slice X L.length d)/\w'.ownsRow w.heap.size 9 1 (.slice X L.length d) L.length (ystrV L)/\Below w.heap.size w w'
set_option maxHeartbeats 1000000 in
set_option maxRecDepth 100000 in
theorem cloneS_c (L:List ByteArray) (A:Option Addr) (c:Nat) (w:World) (hs:Svs w A L) (hz:L.length<=1000000) :
  Calls Tryz.prog 36 #[.slice A L.length c] w (RetCS L w):=by
 obtain ⟨i0,hi⟩:∃ i,Tryz.prog.info? 9=some i:=⟨_,rfl⟩
 have hz0:i0.zero=some (.string ⟨#[]⟩):=by obtain rfl:=Option.some.inj (hi.symm.trans rfl);rfl
 have hz1:i0.size=1:=by obtain rfl:=Option.some.inj (hi.symm.trans rfl);rfl
 have hz2:i0.bytes=16:=by obtain rfl:=Option.some.inj (hi.symm.trans rfl);rfl
 obtain ⟨n,hn⟩:∃ x,L.length=x:=⟨_,rfl⟩
 have HN:=Lib.hid hn
 unfold RetCS
 rw [hn] at hz ⊢
 clear hn
 have HS:=Lib.hid hs
 clear hs
 cases A with
 | none=>
  have h0:n=0:=by
   rcases Nat.eq_zero_or_pos n with h | h
   ·exact h
   ·obtain ⟨b,off,e,-⟩:=HS.out (by rw [HN.out];exact h)
    cases e
  subst h0
  have hl0:L=[]:=List.length_eq_zero_iff.1 HN.out
  have hnil:∀ w,(binOp .eql 37 (.slice none 0 c) (.slice none 0 0)).run Tryz.prog w=.ok (.bool true) w:=fun w=>Lib.run_eql_slice_nil w _ _ _ _ _ _ _ Tryz.underlying37
  go_enter Tryz.func36,Tryz.ntmps36
  go_wp2
  go_ret
  refine ⟨none,0,rfl,?_,Below.refl _ _⟩
  rw [hl0]
  exact World.ownsRow_nil _ _ _ _
 | some a=>
  have hnil:∀ w,(binOp .eql 37 (.slice (some a) n c) (.slice none 0 0)).run Tryz.prog w=.ok (.bool false) w:=fun w=>Lib.run_eql_slice_nil w _ _ _ _ _ _ _ Tryz.underlying37
  go_enter Tryz.func36,Tryz.ntmps36
  go_wp2_with (first
   | (at_builtin;refine wpList_zapp rfl _ _ 37 rfl w.heap.size 9 i0 (.string ⟨#[]⟩) 1 16 Tryz.underlying37 hi hz0 hz1 hz2 rfl (by omega) (some ⟨w.heap.size,0,none⟩) 0 0 [] rfl (lit_own w 9 1) (some a) n c (ystrV L) ?c1 rfl ?c2 (ystrV_one L) ?c3 ?c4 ?c5 ?_))
  case c1=>rw [ystrV_len,HN.out];omega
  case c2=>
   intro hp
   obtain ⟨b,off,e,hb,hc⟩:=HS.out (by rw [HN.out];exact hp)
   refine ⟨b,off,e,fun j u hj=>?_⟩
   have hlt:j<L.length:=by
    rcases Nat.lt_or_ge j L.length with h | h
    ·exact h
    ·rw [List.getElem?_eq_none (by rw [ystrV_len];exact h)] at hj;cases hj
   rw [ystrV_get hlt] at hj
   cases hj
   exact (World.cell?_alloc_some w _ _ (by rw [hc j hlt];rfl)).trans (hc j hlt)
  case c3=>unfold maxLen;omega
  case c4=>omega
  case c5=>simp
  intro X d w1 hown hg
  have hb:Below w.heap.size w w1:=((Below.refl _ _).alloc (Nat.le_refl _) _).grown hg (by simp) (by intro k hk;simp [Value.ownBlock] at hk;omega)
  try rw [Nat.zero_add] at hown
  try rw [List.nil_append] at hown
  have HO:=Lib.hid hown
  clear hg hown
  try rw [Nat.zero_add]
  go_wp2
  go_ret
  exact ⟨X,d,by first | rfl | simp,HO.out,hb⟩
def RetCR (l:List RowP) (RA:Nat->Option Addr) (RC:Nat->Nat) (w:World) (e:Ending) (w':World):Prop:=∃ X d,e=.returned (.slice X l.length d)/\w'.ownsRow w.heap.size 39 2 (.slice X l.length d) l.length (rowsC 2 l.length (rowV l RA RC))/\Below w.heap.size w w'
set_option maxHeartbeats 1000000 in
set_option maxRecDepth 100000 in
theorem cloneR_c (l:List RowP) (RA:Nat->Option Addr) (RC:Nat->Nat) (A:Option Addr) (c:Nat) (w:World) (hs:Rws w A 2 l.length (rowV l RA RC)) (hz:l.length<=1000000) :
  Calls Tryz.prog 84 #[.slice A l.length c] w (RetCR l RA RC w):=by
 obtain ⟨i0,hi,hz0,hz1,hz2⟩:=info_parts Tryz.infoRow
 obtain ⟨n,hn⟩:∃ x,l.length=x:=⟨_,rfl⟩
 unfold RetCR
 rw [hn] at hz hs ⊢
 have HN:=Lib.hid hn
 clear hn
 have HS:=Lib.hid hs
 clear hs
 cases A with
 | none=>
  have h0:n=0:=by
   rcases Nat.eq_zero_or_pos n with h | h
   ·exact h
   ·obtain ⟨b,off,e,-⟩:=HS.out h
    cases e
  subst h0
  have hnil:∀ w,(binOp .eql 28 (.slice none 0 c) (.slice none 0 0)).run Tryz.prog w=.ok (.bool true) w:=fun w=>Lib.run_eql_slice_nil w _ _ _ _ _ _ _ Tryz.underlying28
  go_enter Tryz.func84,Tryz.ntmps84
  go_wp2
  go_ret
  exact ⟨none,0,rfl,World.ownsRow_nil _ _ _ _,Below.refl _ _⟩
 | some a=>
  have hnil:∀ w,(binOp .eql 28 (.slice (some a) n c) (.slice none 0 0)).run Tryz.prog w=.ok (.bool false) w:=fun w=>Lib.run_eql_slice_nil w _ _ _ _ _ _ _ Tryz.underlying28
  go_enter Tryz.func84,Tryz.ntmps84
  go_wp2_with (first
   | (at_builtin;refine wpList_zapp rfl _ _ 28 rfl w.heap.size 39 i0 (.agg #[.string ⟨#[]⟩,.slice none 0 0]) 2 40 Tryz.underlying28 hi hz0 hz1 hz2 rfl (by omega) (some ⟨w.heap.size,0,none⟩) 0 0 [] rfl (lit_own w 39 2) (some a) n c (rowsC 2 n (rowV l RA RC)) ?c1 rfl ?c2 (rowsV_one n l RA RC) ?c3 ?c4 ?c5 ?_))
  case c1=>exact rowsC_len _ _ _
  case c2=>
   intro hp
   obtain ⟨b,off,e,hb,hc⟩:=HS.out hp
   refine ⟨b,off,e,fun j u hj=>?_⟩
   have hlt:j<n*2:=by
    rcases Nat.lt_or_ge j (n*2) with h | h
    ·exact h
    ·rw [List.getElem?_eq_none (by rw [rowsC_len];exact h)] at hj;cases hj
   have hj2:j/2*2+j%2=j:=by omega
   have h1:=rowsC_at (k:=2) (f:=rowV l RA RC) (n:=n) (j:=j/2) (i:=j%2) (by omega) (by omega)
   rw [hj2] at h1
   have h2:=hc (j/2) (by omega) (j%2) (by omega)
   rw [Nat.add_assoc,hj2] at h2
   have h3:u=rowV l RA RC (j/2) (j%2):=Option.some.inj (hj.symm.trans h1)
   rw [h3]
   exact (World.cell?_alloc_some w _ _ (by rw [h2];rfl)).trans h2
  case c3=>unfold maxLen;omega
  case c4=>omega
  case c5=>simp
  intro X d w1 hown hg
  have hb:Below w.heap.size w w1:=((Below.refl _ _).alloc (Nat.le_refl _) _).grown hg (by simp) (by intro k hk;simp [Value.ownBlock] at hk;omega)
  try rw [Nat.zero_add] at hown
  try rw [List.nil_append] at hown
  have HO:=Lib.hid hown
  clear hg hown
  try rw [Nat.zero_add]
  go_wp2
  go_ret
  exact ⟨X,d,by first | rfl | simp,HO.out,hb⟩
set_option linter.unusedVariables false
set_option linter.unusedSimpArgs false
def RwsI (w1 wr:World) (X:Option Addr) (n c:Nat) (l:List RowP):Prop :=
 ∃ (RA:Nat->Option Addr) (RC:Nat->Nat),l.length=n/\wr.ownsRow w1.heap.size 39 2 (.slice X n c) n (rowsC 2 n (rowV l RA RC))/\(∀ j,j<l.length->∀ wx,Below w1.heap.size w1 wx->RowM wx (rA l j) (RA j) (RC j))/\Below w1.heap.size w1 wr
theorem RwsI.nil (w1:World) {wr:World} (hb:Below w1.heap.size w1 wr):RwsI w1 wr none 0 0 []:=⟨fun _=>none,fun _=>0,rfl,World.ownsRow_nil _ _ _ _,fun j hj=>absurd hj (Nat.not_lt_zero _),hb⟩
theorem RwsI.bel {w1 wr:World} {X:Option Addr} {n c:Nat} {l:List RowP} (h:RwsI w1 wr X n c l):Below w1.heap.size w1 wr:=by obtain ⟨_,_,_,_,_,hb⟩:=h;exact hb
theorem RwsI.len {w1 wr:World} {X:Option Addr} {n c:Nat} {l:List RowP} (h:RwsI w1 wr X n c l):l.length=n:=by obtain ⟨_,_,h,_⟩:=h;exact h
theorem RwsI.below {w1 wr w':World} {X:Option Addr} {n c:Nat} {l:List RowP} (h:RwsI w1 wr X n c l) (hb:Below wr.heap.size wr w'):RwsI w1 w' X n c l:=by
 obtain ⟨RA,RC,h1,h2,h3,h4⟩:=h
 exact ⟨RA,RC,h1,own_below h2 hb,h3,below_then hb h4 h4.size⟩
theorem RwsI.rowsM {w1 wr:World} {X:Option Addr} {n c:Nat} {l:List RowP} (h:RwsI w1 wr X n c l):∃ RA RC,RowsM wr X l RA RC:=by
 obtain ⟨RA,RC,h1,h2,h3,h4⟩:=h
 have hc:=own_cap h2
 subst h1
 exact ⟨RA,RC,own_rwsK h2,fun j hj=>h3 j hj _ h4,by have:=hc.1;have:=hc.2;unfold maxLen at *;omega⟩
theorem RwsI.push {w1 wr w':World} {X X' A:Option Addr} {n c c' d:Nat} {l:List RowP} {r:RowP} {RA:Nat->Option Addr} {RC:Nat->Nat} (h1:l.length=n) (h2:wr.ownsRow w1.heap.size 39 2 (.slice X n c) n (rowsC 2 n (rowV l RA RC))) (h3:∀ j,j<l.length->∀ wx,Below w1.heap.size w1 wx->RowM wx (rA l j) (RA j) (RC j)) (h4:Below w1.heap.size w1 wr) (hr:∀ wx,Below w1.heap.size w1 wx->RowM wx r A d)
  (ho:w'.ownsRow w1.heap.size 39 2 (.slice X' (n+1) c') (n+1) (rowsC 2 n (rowV l RA RC)++rwL r A d)) (hg:wr.grownBy w' (Value.slice X n c).ownBlock):RwsI w1 w' X' (n+1) c' (l++[r]):=by
 subst h1
 refine ⟨kndA RA l.length A,kndN RC l.length d,by simp,by rw [<- rwL_rows];exact ho,fun j hj wx hx=>?_,h4.grown hg h4.size (fun j hj=>(h2.lt j hj).1)⟩
 rw [rA_snoc]
 unfold kndA kndN
 by_cases hj2:j=l.length
 ·rw [if_pos hj2,if_pos hj2,if_pos hj2]
  exact hr wx hx
 ·rw [if_neg hj2,if_neg hj2,if_neg hj2]
  have hjl:j<l.length:=by simp at hj;omega
  exact h3 j hjl wx hx
def RetIn (l:List RowP) (w:World) (e:Ending) (w':World):Prop:=∃ X c RA RC,e=.returned (.slice X l.length c)/\RowsM w' X l RA RC/\Below w.heap.size w w'
set_option maxHeartbeats 4000000 in
set_option maxRecDepth 100000 in
theorem innerX_c (f:Fmt) (A:Option Addr) (cp:Nat) (L:Option Addr) (LC:Nat) (rs:List RowP) (RA:Nat->Option Addr) (RC:Nat->Nat) (w:World) (hl:RowsM w L rs RA RC) (h2000:rs.length*40<=140737488355328) :
  Calls Tryz.prog 34 #[fmtG f A cp,.slice L rs.length LC] w (RetIn (innL f rs) w):=by
 obtain ⟨i0,hi,hz0,hz1,hz2⟩:=info_parts Tryz.infoRow
 have HLM:=Lib.hid hl
 have HNX0:=Lib.hid (fun j (h:j<rs.length)=>inn_take (f:=f) h)
 have HEB0:=Lib.hid (show ∀ r,endB f r=((!decide (f.head=⟨#[]⟩)&&decide (r.tag=f.head))||(!decide (f.tail=⟨#[]⟩)&&decide (r.tag=f.tail))) from fun r=>by unfold endB;simp)
 have HLE:=Lib.hid (fun j=>Nat.le_trans (inn_len f (rs.take j)) (List.length_take_le j rs))
 have HEND:=Lib.hid (show innL f (rs.take rs.length)=innL f rs by rw [List.take_length])
 unfold RetIn
 obtain ⟨R,hR⟩:∃ x,innL f rs=x:=⟨_,rfl⟩
 obtain ⟨IN,hIN⟩:∃ x:Nat->List RowP,(fun j=>innL f (rs.take j))=x:=⟨_,rfl⟩
 have hINa:∀ j,innL f (rs.take j)=IN j:=fun j=>by rw [<- hIN]
 obtain ⟨EB,hEB⟩:∃ x,endB f=x:=⟨_,rfl⟩
 have HN1:=Lib.hid (show ∀ j,j<rs.length->IN (j+1)=IN j++(if EB (rA rs j)=true then [] else [rA rs j]) from fun j h=>by rw [<- hINa,<- hINa,<- hEB];exact HNX0.out j h)
 have HE1:=Lib.hid (show ∀ r,EB r=((!decide (f.head=⟨#[]⟩)&&decide (r.tag=f.head))||(!decide (f.tail=⟨#[]⟩)&&decide (r.tag=f.tail))) from fun r=>by rw [<- hEB];exact HEB0.out r)
 have HL1:=Lib.hid (show ∀ j,(IN j).length<=j from fun j=>by rw [<- hINa];exact HLE.out j)
 have HR:=Lib.hid (show IN rs.length=R by rw [<- hINa,HEND.out,hR])
 have HZ:=Lib.hid (show IN 0=[] by rw [<- hINa];rfl)
 rw [hR]
 clear hR hIN hINa hEB HNX0 HEB0 HLE HEND hl
 obtain ⟨fm,fq,fks,hd,tl,ct,sm⟩:=f
 unfold fmtG
 simp only at HE1 ⊢
 obtain ⟨nk,hnk⟩:∃ x,fks.length=x:=⟨_,rfl⟩
 obtain ⟨nr,hnr⟩:∃ x,rs.length=x:=⟨_,rfl⟩
 have HNR:=Lib.hid hnr
 rw [hnk]
 rw [hnr] at h2000 HN1 HR ⊢
 clear hnk hnr
 have hP:=heap_new w (.cells #[.int .u8 fm,.int .u8 fq,.slice A nk cp,.string hd,.string tl,.string ct,.string sm] 44) rfl
 have hB1:Below w.heap.size w (w.alloc (.cells #[.int .u8 fm,.int .u8 fq,.slice A nk cp,.string hd,.string tl,.string ct,.string sm] 44)):=by go_grown
 go_enter Tryz.func34,Tryz.ntmps34
 go_upto_region 1 with fail
 generalize w.alloc (.cells #[.int .u8 fm,.int .u8 fq,.slice A nk cp,.string hd,.string tl,.string ct,.string sm] 44)=w1 at hP hB1 ⊢
 have HW:=Lib.hid (show ∀ wx,Below w1.heap.size w1 wx->wx.heap[w.heap.size]?=some (.cells #[.int .u8 fm,.int .u8 fq,.slice A nk cp,.string hd,.string tl,.string ct,.string sm] 44 (0,0))/\RowsM wx L rs RA RC/\Below w.heap.size w wx from fun wx h=>by
  have h2:=below_then h hB1 hB1.size
  exact ⟨heap_below hP h,HLM.out.below h2,h2⟩)
 clear hP hB1
 go_wp2_with fail
 go_loopw [10,5] (fun i o wr=>∃ (j:Nat) (X:Option Addr) (n c:Nat),j<=nr/\i=.int .i64 j/\o=.slice X n c/\n<=j/\Hid (RwsI w1 wr X n c (IN j))) (fun i o _=>nr-(intOf i).toNat)
 case atStart=>exact ⟨0,none,0,0,by omega,rfl,rfl,by omega,Lib.hid (by rw [HZ.out];exact RwsI.nil w1 (Below.refl _ _))⟩
 case round=>
  obtain ⟨j,X,n,c,hj,rfl,rfl,hn,HO⟩:=hrel
  rcases Nat.lt_or_ge j nr with hlt | hge
  ·have hjl:j<rs.length:=by rw [HNR.out];exact hlt
   obtain ⟨q1,ql,qb⟩:=HW.out _ HO.out.bel
   obtain ⟨b,off,rfl,hbk,c0,c1⟩:=ql.cells hjl
   have HRJ:=Lib.hid (fun wx h=>(HW.out wx h).2.1.each j hjl)
   have HNX:=Lib.hid (HN1.out j hlt)
   have HEB:=Lib.hid (HE1.out (rA rs j))
   obtain ⟨r,hr⟩:∃ x,rA rs j=x:=⟨_,rfl⟩
   rw [hr] at c0 c1 HRJ HNX HEB
   generalize RA j=RJ at c1 HRJ
   generalize RC j=CJ at c1 HRJ
   obtain ⟨rt,vs⟩:=r
   simp only at c0 c1 HEB
   obtain ⟨nv,hnv⟩:∃ x,vs.length=x:=⟨_,rfl⟩
   have HNV:=Lib.hid hnv
   rw [hnv] at c1
   have HRD:=Lib.hid (heap_new wr (.cells #[.string rt,.slice RJ nv CJ] 39) rfl)
   have hbd:Below wr.heap.size wr (wr.alloc (.cells #[.string rt,.slice RJ nv CJ] 39)):=by go_grown
   have HO2:=Lib.hid (HO.out.below hbd)
   clear hr hnv hjl q1 ql qb
   go_upto_region 5 with fail
   obtain ⟨rb,hrb⟩:∃ x,wr.heap.size=x:=⟨_,rfl⟩
   rw [hrb] at HRD
   try rw [hrb]
   generalize wr.alloc (.cells #[.string rt,.slice RJ nv CJ] 39)=w2 at HRD HO2 ⊢
   clear hrb c0 c1 hbk hbd HO
   obtain ⟨q1,-,-⟩:=HW.out _ HO2.out.bel
   obtain ⟨⟨p0,p1,p2,p3,p4,p5,p6⟩,-⟩:=obox7 q1
   obtain ⟨r0,r1,-,-,-⟩:=box2 HRD.out
   have hz2w:=HO2.out.bel.size
   obtain ⟨RA8,RC8,g1,g2,g3,g4⟩:=HO2.out
   have G1:=Lib.hid g1;have G2:=Lib.hid g2;have G3:=Lib.hid g3;have G4:=Lib.hid g4
   clear g1 g2 g3 g4 q1
   have e1:=emp_dec hd
   have e2:=bytes_dec rt hd
   have e3:=emp_dec tl
   have e4:=bytes_dec rt tl
   by_cases k1:hd=⟨#[]⟩
   ·rw [decide_eq_true k1] at e1
    have Bk1:=Lib.hid (decide_eq_true k1)
    clear k1
    by_cases k3:tl=⟨#[]⟩
    ·rw [decide_eq_true k3] at e3
     have Bk3:=Lib.hid (decide_eq_true k3)
     clear k3
     have HI2:=Lib.hid (show IN (j+1)=IN j++[⟨rt,vs⟩] by rw [HNX.out,HEB.out,Bk1.out,Bk3.out];rfl)
     go_upto_region 7 with (at_builtin;refine wpList_zpush rfl _ _ 28 rfl w1.heap.size 39 i0 (.agg #[.string ⟨#[]⟩,.slice none 0 0]) 2 40 Tryz.underlying28 hi hz0 hz1 hz2 rfl (by decide) (.slice X n c) n (rowsC 2 n (rowV (IN j) RA8 RC8)) rfl G2.out [.string rt,.slice RJ nv CJ] rfl rfl (by intro u hu;simp at hu;rcases hu with rfl | rfl<;>rfl) (by unfold maxLen;omega) (by omega) hz2w ?_;intro X9 c9 w9 hown9 hg9)
     have HO9:=Lib.hid (show RwsI w1 w9 X9 (n+1) c9 (IN (j+1)) by
      rw [HI2.out]
      refine RwsI.push G1.out G2.out G3.out G4.out HRJ.out ?_ hg9
      unfold rwL
      simp only
      rw [HNV.out]
      exact hown9)
     clear hown9 hg9
     go_wp2
     go_roundw
     case rel=>first | exact ⟨j+1,X9,n+1,c9,by omega,by go_num,rfl,by omega,HO9⟩ | ((repeat apply Exists.intro);exact ⟨⟨j+1,X9,n+1,c9,by omega,by go_num,rfl,by omega,HO9⟩,rfl⟩)
     case measure=>simp [intOf];omega
    ·rw [decide_eq_false k3] at e3
     have Bk3:=Lib.hid (decide_eq_false k3)
     clear k3
     by_cases k4:rt=tl
     ·rw [decide_eq_true k4] at e4
      have Bk4:=Lib.hid (decide_eq_true k4)
      clear k4
      have HI2:=Lib.hid (show IN (j+1)=IN j by rw [HNX.out,HEB.out,Bk1.out,Bk3.out,Bk4.out];exact List.append_nil _)
      have HO9:=Lib.hid (show RwsI w1 w2 X n c (IN (j+1)) by rw [HI2.out];exact HO2.out)
      go_wp2
      go_roundw
      case rel=>first | exact ⟨j+1,X,n,c,by omega,by go_num,rfl,by omega,HO9⟩ | ((repeat apply Exists.intro);exact ⟨⟨j+1,X,n,c,by omega,by go_num,rfl,by omega,HO9⟩,rfl⟩)
      case measure=>simp [intOf];omega
     ·rw [decide_eq_false k4] at e4
      have Bk4:=Lib.hid (decide_eq_false k4)
      clear k4
      have HI2:=Lib.hid (show IN (j+1)=IN j++[⟨rt,vs⟩] by rw [HNX.out,HEB.out,Bk1.out,Bk3.out,Bk4.out];rfl)
      go_upto_region 7 with (at_builtin;refine wpList_zpush rfl _ _ 28 rfl w1.heap.size 39 i0 (.agg #[.string ⟨#[]⟩,.slice none 0 0]) 2 40 Tryz.underlying28 hi hz0 hz1 hz2 rfl (by decide) (.slice X n c) n (rowsC 2 n (rowV (IN j) RA8 RC8)) rfl G2.out [.string rt,.slice RJ nv CJ] rfl rfl (by intro u hu;simp at hu;rcases hu with rfl | rfl<;>rfl) (by unfold maxLen;omega) (by omega) hz2w ?_;intro X9 c9 w9 hown9 hg9)
      have HO9:=Lib.hid (show RwsI w1 w9 X9 (n+1) c9 (IN (j+1)) by
       rw [HI2.out]
       refine RwsI.push G1.out G2.out G3.out G4.out HRJ.out ?_ hg9
       unfold rwL
       simp only
       rw [HNV.out]
       exact hown9)
      clear hown9 hg9
      go_wp2
      go_roundw
      case rel=>first | exact ⟨j+1,X9,n+1,c9,by omega,by go_num,rfl,by omega,HO9⟩ | ((repeat apply Exists.intro);exact ⟨⟨j+1,X9,n+1,c9,by omega,by go_num,rfl,by omega,HO9⟩,rfl⟩)
      case measure=>simp [intOf];omega
   ·rw [decide_eq_false k1] at e1
    have Bk1:=Lib.hid (decide_eq_false k1)
    clear k1
    by_cases k2:rt=hd
    ·rw [decide_eq_true k2] at e2
     have Bk2:=Lib.hid (decide_eq_true k2)
     clear k2
     have HI2:=Lib.hid (show IN (j+1)=IN j by rw [HNX.out,HEB.out,Bk1.out,Bk2.out];exact List.append_nil _)
     have HO9:=Lib.hid (show RwsI w1 w2 X n c (IN (j+1)) by rw [HI2.out];exact HO2.out)
     go_wp2
     go_roundw
     case rel=>first | exact ⟨j+1,X,n,c,by omega,by go_num,rfl,by omega,HO9⟩ | ((repeat apply Exists.intro);exact ⟨⟨j+1,X,n,c,by omega,by go_num,rfl,by omega,HO9⟩,rfl⟩)
     case measure=>simp [intOf];omega
    ·rw [decide_eq_false k2] at e2
     have Bk2:=Lib.hid (decide_eq_false k2)
     clear k2
     by_cases k3:tl=⟨#[]⟩
     ·rw [decide_eq_true k3] at e3
      have Bk3:=Lib.hid (decide_eq_true k3)
      clear k3
      have HI2:=Lib.hid (show IN (j+1)=IN j++[⟨rt,vs⟩] by rw [HNX.out,HEB.out,Bk1.out,Bk2.out,Bk3.out];rfl)
      go_upto_region 7 with (at_builtin;refine wpList_zpush rfl _ _ 28 rfl w1.heap.size 39 i0 (.agg #[.string ⟨#[]⟩,.slice none 0 0]) 2 40 Tryz.underlying28 hi hz0 hz1 hz2 rfl (by decide) (.slice X n c) n (rowsC 2 n (rowV (IN j) RA8 RC8)) rfl G2.out [.string rt,.slice RJ nv CJ] rfl rfl (by intro u hu;simp at hu;rcases hu with rfl | rfl<;>rfl) (by unfold maxLen;omega) (by omega) hz2w ?_;intro X9 c9 w9 hown9 hg9)
      have HO9:=Lib.hid (show RwsI w1 w9 X9 (n+1) c9 (IN (j+1)) by
       rw [HI2.out]
       refine RwsI.push G1.out G2.out G3.out G4.out HRJ.out ?_ hg9
       unfold rwL
       simp only
       rw [HNV.out]
       exact hown9)
      clear hown9 hg9
      go_wp2
      go_roundw
      case rel=>first | exact ⟨j+1,X9,n+1,c9,by omega,by go_num,rfl,by omega,HO9⟩ | ((repeat apply Exists.intro);exact ⟨⟨j+1,X9,n+1,c9,by omega,by go_num,rfl,by omega,HO9⟩,rfl⟩)
      case measure=>simp [intOf];omega
     ·rw [decide_eq_false k3] at e3
      have Bk3:=Lib.hid (decide_eq_false k3)
      clear k3
      by_cases k4:rt=tl
      ·rw [decide_eq_true k4] at e4
       have Bk4:=Lib.hid (decide_eq_true k4)
       clear k4
       have HI2:=Lib.hid (show IN (j+1)=IN j by rw [HNX.out,HEB.out,Bk1.out,Bk2.out,Bk3.out,Bk4.out];exact List.append_nil _)
       have HO9:=Lib.hid (show RwsI w1 w2 X n c (IN (j+1)) by rw [HI2.out];exact HO2.out)
       go_wp2
       go_roundw
       case rel=>first | exact ⟨j+1,X,n,c,by omega,by go_num,rfl,by omega,HO9⟩ | ((repeat apply Exists.intro);exact ⟨⟨j+1,X,n,c,by omega,by go_num,rfl,by omega,HO9⟩,rfl⟩)
       case measure=>simp [intOf];omega
      ·rw [decide_eq_false k4] at e4
       have Bk4:=Lib.hid (decide_eq_false k4)
       clear k4
       have HI2:=Lib.hid (show IN (j+1)=IN j++[⟨rt,vs⟩] by rw [HNX.out,HEB.out,Bk1.out,Bk2.out,Bk3.out,Bk4.out];rfl)
       go_upto_region 7 with (at_builtin;refine wpList_zpush rfl _ _ 28 rfl w1.heap.size 39 i0 (.agg #[.string ⟨#[]⟩,.slice none 0 0]) 2 40 Tryz.underlying28 hi hz0 hz1 hz2 rfl (by decide) (.slice X n c) n (rowsC 2 n (rowV (IN j) RA8 RC8)) rfl G2.out [.string rt,.slice RJ nv CJ] rfl rfl (by intro u hu;simp at hu;rcases hu with rfl | rfl<;>rfl) (by unfold maxLen;omega) (by omega) hz2w ?_;intro X9 c9 w9 hown9 hg9)
       have HO9:=Lib.hid (show RwsI w1 w9 X9 (n+1) c9 (IN (j+1)) by
        rw [HI2.out]
        refine RwsI.push G1.out G2.out G3.out G4.out HRJ.out ?_ hg9
        unfold rwL
        simp only
        rw [HNV.out]
        exact hown9)
       clear hown9 hg9
       go_wp2
       go_roundw
       case rel=>first | exact ⟨j+1,X9,n+1,c9,by omega,by go_num,rfl,by omega,HO9⟩ | ((repeat apply Exists.intro);exact ⟨⟨j+1,X9,n+1,c9,by omega,by go_num,rfl,by omega,HO9⟩,rfl⟩)
       case measure=>simp [intOf];omega
  ·obtain rfl:j=nr:=by omega
   have hlen:=HO.out.len
   obtain ⟨RA9,RC9,hrm⟩:=HO.out.rowsM
   rw [HR.out] at hlen hrm
   have HRM:=Lib.hid hrm
   have HHL:=Lib.hid hlen
   have QB:=Lib.hid (HW.out _ HO.out.bel).2.2
   clear hlen hrm
   go_wp2
   go_ret
   exact ⟨X,c,RA9,RC9,by rw [HHL.out];rfl,HRM.out,QB.out⟩
theorem inner_c (f:Fmt) (A:Option Addr) (cp:Nat) (L:Option Addr) (LC:Nat) (rs:List RowP) (RA:Nat->Option Addr) (RC:Nat->Nat) (w:World) (hl:RowsM w L rs RA RC) (h2000:rs.length<=2000) :
  Calls Tryz.prog 34 #[fmtG f A cp,.slice L rs.length LC] w (RetIn (innL f rs) w) :=
 innerX_c f A cp L LC rs RA RC w hl (by omega)
set_option maxHeartbeats 2000000 in
set_option maxRecDepth 100000 in
theorem sumf1_c (f:Fmt) (A:Option Addr) (cp:Nat) (FA:Nat->Option Addr) (FC:Nat->Nat) (r:RowP) (RJ:Option Addr) (CJ b:Nat) (w:World) (ho:Kinds w A f.kinds FA FC) (hb:w.heap[b]?=some (.cells #[.int .u8 f.mark,.int .u8 f.quote,.slice A f.kinds.length cp,.string f.head,.string f.tail,.string f.count,.string f.sum] 44 (0,0))) :
  Calls Tryz.prog 77 #[rowG r RJ CJ,.pointer (some ⟨b,0,none⟩)] w (RetB (badB f r) w):=by
 have HKA:=Lib.hid (fun w h=>kindat_c f A cp FA FC r.tag w h)
 have HCC:=Lib.hid (kat_cases f FA FC r.tag)
 have HKI:=Lib.hid ho
 have HBB:=Lib.hid (show badB f r=(decide (0<=ixF (nameIs f.sum) (katK f r.tag).fields)&&decide ((cA (katK f r.tag).fields (ixF (nameIs f.sum) (katK f r.tag).fields).toNat).kind≠2)) from rfl)
 obtain ⟨R,hR⟩:∃ x,badB f r=x:=⟨_,rfl⟩
 rw [hR] at HBB ⊢
 unfold RetB
 clear ho hR
 obtain ⟨m,q,ks,hd,tl,ct,sm⟩:=f
 obtain ⟨rt,vs⟩:=r
 unfold fmtG at HKA
 unfold rowG
 simp only at HKA HCC HKI HBB hb ⊢
 obtain ⟨n,hn⟩:∃ x,ks.length=x:=⟨_,rfl⟩
 rw [hn] at HKA hb
 clear hn
 obtain ⟨nv,hnv⟩:∃ x,vs.length=x:=⟨_,rfl⟩
 rw [hnv]
 clear hnv
 have HRD:=Lib.hid (heap_new w (.cells #[.string rt,.slice RJ nv CJ] 39) rfl)
 have HF:=Lib.hid (heap_old hb (.cells #[.string rt,.slice RJ nv CJ] 39))
 have HB:Hid (Below w.heap.size w (w.alloc (.cells #[.string rt,.slice RJ nv CJ] 39))):=Lib.hid (by go_grown)
 clear hb
 go_enter Tryz.func77,Tryz.ntmps77
 go_upto_region 1 with fail
 generalize w.alloc (.cells #[.string rt,.slice RJ nv CJ] 39)=w1 at HRD HF HB ⊢
 obtain ⟨⟨p0,p1,p2,p3,p4,p5,p6⟩,-⟩:=obox7 HF.out
 obtain ⟨r0,r1,-,-,-⟩:=box2 HRD.out
 go_wp2_with fail
 refine (HKA.out _ (HKI.out.below HB.out)).mono ?_
 rintro _ w2 ⟨rfl,hb2⟩
 have HF2:=Lib.hid (heap_below HF.out hb2)
 have HB2:=Lib.hid (below_then hb2 HB.out HB.out.size)
 clear p0 p1 p2 p3 p4 p5 p6 r0 r1 hb2 HF HRD HB
 have HCO:Hid (∀ wx,Below w.heap.size w wx->Cols wx (katA ⟨m,q,ks,hd,tl,ct,sm⟩ FA rt) (katK ⟨m,q,ks,hd,tl,ct,sm⟩ rt).fields):=Lib.hid (fun wx h=>by
  rcases HCC.out with ⟨-,e2,e3,-⟩|⟨k,hk,-,e2,e3,-⟩
  ·rw [e2,e3]
   exact ⟨⟨fun c hc=>(by cases hc),Nat.zero_le _⟩,fun h=>absurd h (Nat.not_lt_zero _)⟩
  ·rw [e2,e3]
   exact kinds_cols (HKI.out.below h) hk)
 obtain ⟨K,hK⟩:∃ x,katK ⟨m,q,ks,hd,tl,ct,sm⟩ rt=x:=⟨_,rfl⟩
 rw [hK] at HBB HCO ⊢
 generalize katA ⟨m,q,ks,hd,tl,ct,sm⟩ FA rt=KA at HCO ⊢
 generalize katC ⟨m,q,ks,hd,tl,ct,sm⟩ FC rt=KC
 clear hK HCC
 have HCA:=Lib.hid (fun w h=>colat_c K KA KC sm w h)
 have HIX:=Lib.hid (ixF_spec (nameIs sm) K.fields)
 obtain ⟨kt,fs,km,ku⟩:=K
 unfold kindG at HCA ⊢
 simp only at HCO HCA HIX HBB ⊢
 obtain ⟨nf,hnf⟩:∃ x,fs.length=x:=⟨_,rfl⟩
 have HNF:=Lib.hid hnf
 rw [hnf] at HCA ⊢
 clear hnf
 have HK3:=Lib.hid (heap_new w2 (.cells #[.string kt,.slice KA nf KC,.int .i64 km,.string ku] 83) rfl)
 have HF3:=Lib.hid (heap_old HF2.out (.cells #[.string kt,.slice KA nf KC,.int .i64 km,.string ku] 83))
 have HB3:Hid (Below w.heap.size w (w2.alloc (.cells #[.string kt,.slice KA nf KC,.int .i64 km,.string ku] 83))):=Lib.hid (HB2.out.alloc HB2.out.size _)
 clear HF2 HB2
 go_upto_region 2 with fail
 obtain ⟨k0,hk0⟩:∃ x,w2.heap.size=x:=⟨_,rfl⟩
 rw [hk0] at HK3
 try rw [hk0]
 generalize w2.alloc (.cells #[.string kt,.slice KA nf KC,.int .i64 km,.string ku] 83)=w3 at HK3 HF3 HB3 ⊢
 clear hk0
 obtain ⟨⟨y0,y1,y2,y3⟩,-,y4⟩:=obox4 HK3.out
 obtain ⟨⟨p0,p1,p2,p3,p4,p5,p6⟩,-⟩:=obox7 HF3.out
 go_wp2_with fail
 refine (HCA.out _ (HCO.out _ HB3.out)).mono ?_
 rintro _ w4 ⟨rfl,hb4⟩
 have HK4:=Lib.hid (heap_below HK3.out hb4)
 have HB4:=Lib.hid (below_then hb4 HB3.out HB3.out.size)
 clear y0 y1 y2 y3 y4 p0 p1 p2 p3 p4 p5 p6 hb4 HF3 HK3 HB3
 obtain ⟨⟨y0,y1,y2,y3⟩,-,y4⟩:=obox4 HK4.out
 rcases HIX.out with ⟨h1,-⟩|⟨ic,hi,h1,-,-⟩
 ·have HE:=Lib.hid (show R=false by rw [HBB.out,h1];rfl)
  rw [h1]
  clear h1
  go_wp2
  go_ret
  exact ⟨by rw [HE.out];rfl,HB4.out⟩
 ·obtain ⟨cb,co,rfl,hcb,d0,d1,d2,d3,d4,d5,d6,d7⟩:=(HCO.out _ HB4.out).cells (j:=ic) hi
  have HE:=Lib.hid (show R=decide ((cA fs ic).kind≠2) by rw [HBB.out,h1,Int.toNat_natCast,decide_eq_true (show (0:Int)<=(ic:Int) by omega)];exact Bool.true_and _)
  rw [h1]
  have hin:ic<nf:=by rw [<- HNF.out];exact hi
  obtain ⟨C,hC⟩:∃ x,cA fs ic=x:=⟨_,rfl⟩
  rw [hC] at d0 d1 d2 d3 d4 d5 d6 d7 HE
  obtain ⟨cn,ck,cw,cl,cm,cr,ci,ce⟩:=C
  simp only at d0 d1 d2 d3 d4 d5 d6 d7 HE
  clear hC h1 hi d0 d2 d3 d4 d5 d6 d7
  have hdec:decide ((0:Int)<=(ic:Int))=true:=decide_eq_true (by omega)
  by_cases h2:ck=2
  ·have HE2:=Lib.hid (show R=false by rw [HE.out];exact decide_eq_false (fun h=>h h2))
   subst h2
   clear HE
   go_wp2
   go_ret
   exact ⟨by rw [HE2.out];rfl,HB4.out⟩
  ·have HE2:=Lib.hid (show R=true by rw [HE.out];exact decide_eq_true h2)
   have h3:(ck !=2)=true:=by simpa using h2
   clear HE h2
   go_wp2
   go_ret
   exact ⟨by rw [HE2.out];rfl,HB4.out⟩
set_option maxHeartbeats 1000000 in
set_option maxRecDepth 100000 in
theorem ixr_c (N:Nat) (k1:Value) (q:RowP->Bool) (A:Option Addr) (c:Nat) (rs:List RowP) (RA:Nat->Option Addr) (RC:Nat->Nat) (w:World) (ho:RowsM w A rs RA RC) (hr:∀ args w,(Sem.run Tryz.prog (callFunc N args) w)=.ok (.enter N args) w)
  (hq:∀ j,j<rs.length->∀ wr,Below w.heap.size w wr->Calls Tryz.prog N #[rowG (rA rs j) (RA j) (RC j),k1] wr fun e w'=>e=.returned (.bool (q (rA rs j)))/\Below wr.heap.size wr w') :
  Calls Tryz.prog 122 #[.slice A rs.length c,.func (.func N) #[] #[k1]] w
   fun e w'=>e=.returned (.int .i64 (ixF q rs))/\Below w.heap.size w w':=by
 have HO:=Lib.hid ho;have HQ:=Lib.hid hq;have HR:=Lib.hid hr
 have hm:=ho.len
 obtain ⟨n,hnn⟩:∃ n,rs.length=n:=⟨_,rfl⟩
 have HN:=Lib.hid hnn
 rw [hnn] at hm ⊢
 clear ho hr hq hnn
 go_enter Tryz.func122,Tryz.ntmps122
 go_wp2
 go_loopw [8] (fun i wr=>∃ k:Nat,k<=n/\i=.int .i64 k/\Below w.heap.size w wr/\Hid (∀ j,j<k->q (rA rs j)=false)) (fun i _=>n-(intOf i).toNat)
 case atStart=>exact ⟨0,Nat.zero_le _,rfl,Below.refl _ _,Lib.hid (fun j h=>absurd h (Nat.not_lt_zero _))⟩
 case round=>
  obtain ⟨k,hk,rfl,hb,HK⟩:=hrel
  rcases Nat.lt_or_ge k n with hlt | hge
  ·have hltj:k<rs.length:=by rw [HN.out];exact hlt
   obtain ⟨b,off,rfl,hbw,c0,c1⟩:=(HO.out.below hb).cells hltj
   have HC:=Lib.hid (HQ.out k hltj wr hb)
   obtain ⟨x,hx⟩:∃ x,rA rs k=x:=⟨_,rfl⟩
   have HX:=Lib.hid hx
   rw [hx] at c0 c1 HC
   generalize RA k=RJ at c1 HC
   generalize RC k=CJ at c1 HC
   unfold rowG at HC
   clear hx
   cases hot:q x with
   | true=>
    rw [hot] at HC
    have HT:=Lib.hid (show ixF q rs=(k:Int) from ixF_hit hltj (by rw [rA_get hltj,HX.out];exact hot) (fun j hj hjk=>by rw [rA_get hj];exact HK.out j hjk))
    clear hot hltj
    obtain ⟨rt,vs⟩:=x
    simp only at c0 c1 HC
    go_wp2_with fail
    rw [HR.out]
    refine HC.out.mono ?_
    rintro e w2 ⟨rfl,hb2⟩
    have hB2:=below_then hb2 hb hb.size
    go_wp2
    go_ret
    exact ⟨congrArg (fun i=>Ending.returned (Value.int .i64 i)) HT.out.symm,hB2⟩
   | false=>
    rw [hot] at HC
    have HK2:=Lib.hid (show ∀ j,j<k+1->q (rA rs j)=false from fun j hj=>by
     rcases Nat.lt_or_ge j k with h | h
     ·exact HK.out j h
     ·obtain rfl:j=k:=by omega
      rw [HX.out];exact hot)
    clear hot hltj
    obtain ⟨rt,vs⟩:=x
    simp only at c0 c1 HC
    go_wp2_with fail
    rw [HR.out]
    refine HC.out.mono ?_
    rintro e w2 ⟨rfl,hb2⟩
    have hB2:=below_then hb2 hb hb.size
    go_wp2
    go_roundw
    case rel=>exact ⟨k+1,by omega,by go_num,hB2,HK2⟩
    case measure=>simp [intOf];omega
  ·obtain rfl:k=n:=by omega
   have HT:=Lib.hid (show ixF q rs=-1 from ixF_no (fun j hj=>by rw [rA_get hj];exact HK.out j (by rw [<- HN.out];exact hj)))
   go_wp2
   go_ret
   exact ⟨congrArg (fun i=>Ending.returned (Value.int .i64 i)) HT.out.symm,hb⟩
set_option maxRecDepth 100000 in
theorem anyr_of (V W:Value) (b:Bool) (i:Int) (w:World) (hi:decide (0<=i)=b)
  (h:Calls Tryz.prog 122 #[V,W] w fun e w'=>e=.returned (.int .i64 i)/\Below w.heap.size w w') :
  Calls Tryz.prog 76 #[V,W] w fun e w'=>e=.returned (.bool b)/\Below w.heap.size w w':=by
 have HI:=Lib.hid hi
 clear hi
 go_enter Tryz.func76,Tryz.ntmps76
 go_wp2_with fail
 refine h.mono ?_
 rintro e w2 ⟨rfl,hb2⟩
 go_wp2
 go_ret
 exact ⟨congrArg (fun b=>Ending.returned (Value.bool b)) HI.out,hb2⟩
set_option maxHeartbeats 2000000 in
set_option maxRecDepth 100000 in
theorem sumfault_c (f:Fmt) (A:Option Addr) (cp:Nat) (FA:Nat->Option Addr) (FC:Nat->Nat) (L:Option Addr) (LC:Nat) (rs:List RowP) (RA:Nat->Option Addr) (RC:Nat->Nat) (w:World) (ho:Kinds w A f.kinds FA FC) (hl:RowsM w L rs RA RC) :
  Calls Tryz.prog 33 #[fmtG f A cp,.slice L rs.length LC] w (RetB (sumB f rs) w):=by
 have HF:=heap_new w (.cells #[.int .u8 f.mark,.int .u8 f.quote,.slice A f.kinds.length cp,.string f.head,.string f.tail,.string f.count,.string f.sum] 44) rfl
 have HB:Below w.heap.size w (w.alloc (.cells #[.int .u8 f.mark,.int .u8 f.quote,.slice A f.kinds.length cp,.string f.head,.string f.tail,.string f.count,.string f.sum] 44)):=by go_grown
 have HIX:=Lib.hid (fun w1 (h1:Below w.heap.size w w1) (hf:w1.heap[w.heap.size]?=some (.cells #[.int .u8 f.mark,.int .u8 f.quote,.slice A f.kinds.length cp,.string f.head,.string f.tail,.string f.count,.string f.sum] 44 (0,0)))=>ixr_c 77 (.pointer (some ⟨w.heap.size,0,none⟩)) (badB f) L LC rs RA RC w1 (hl.below h1) (fun _ _=>by kernel_rfl) (fun j hj wr hb=>sumf1_c f A cp FA FC (rA rs j) (RA j) (RC j) w.heap.size wr ((ho.below h1).below hb) (heap_below hf hb)))
 have HAN:=Lib.hid (ixF_any (badB f) rs)
 have HBB:=Lib.hid (show sumB f rs=(!decide (f.sum=⟨#[]⟩)&&rs.any (badB f)) by unfold sumB;simp)
 obtain ⟨R,hR⟩:∃ x,sumB f rs=x:=⟨_,rfl⟩
 rw [hR] at HBB ⊢
 generalize ixF (badB f) rs=IX at HIX HAN
 generalize rs.any (badB f)=ANY at HAN HBB
 unfold RetB
 clear ho hl hR
 obtain ⟨m,q,ks,hd,tl,ct,sm⟩:=f
 unfold fmtG
 simp only at HF HB HIX HBB ⊢
 obtain ⟨n,hn⟩:∃ x,ks.length=x:=⟨_,rfl⟩
 obtain ⟨nr,hnr⟩:∃ x,rs.length=x:=⟨_,rfl⟩
 rw [hn] at HF HB HIX ⊢
 rw [hnr] at HIX ⊢
 clear hn hnr
 have HF1:=Lib.hid HF;have HB1:=Lib.hid HB
 clear HF HB
 go_enter Tryz.func33,Tryz.ntmps33
 go_upto_region 1 with fail
 generalize w.alloc (.cells #[.int .u8 m,.int .u8 q,.slice A n cp,.string hd,.string tl,.string ct,.string sm] 44)=w1 at HF1 HB1 ⊢
 obtain ⟨⟨p0,p1,p2,p3,p4,p5,p6⟩,-⟩:=obox7 HF1.out
 have e1:=emp_dec sm
 by_cases h1:sm=⟨#[]⟩
 ·have HE:=Lib.hid (show R=false by rw [HBB.out,decide_eq_true h1];rfl)
  rw [decide_eq_true h1] at e1
  clear h1
  have hB:=HB1.out
  go_wp2
  go_ret
  exact ⟨by rw [HE.out];rfl,hB⟩
 ·have HE:=Lib.hid (show R=ANY by rw [HBB.out,decide_eq_false h1];exact Bool.true_and _)
  rw [decide_eq_false h1] at e1
  clear h1
  go_wp2_with fail
  refine (anyr_of _ _ ANY _ _ HAN.out (HIX.out _ HB1.out HF1.out)).mono ?_
  rintro _ w3 ⟨rfl,hb3⟩
  have hB3:=below_then hb3 HB1.out HB1.out.size
  go_wp2
  go_ret
  exact ⟨by rw [HE.out];rfl,hB3⟩
theorem own_obj {w:World} {base:Nat} {e:TypeId} {size n cap g:Nat} {xs:List Value} (h:w.ownsRow base e size (.slice (some ⟨g,0,none⟩) n cap) n xs):∃ cur,w.heap[g]?=some (.cells cur e (0,0))/\base<=g:=by
 rcases h.2 with ⟨hv,h0⟩|⟨g',cap',cur,hv,hb,hg,-⟩
 ·cases hv
 ·cases hv
  exact ⟨cur,hg,hb⟩
theorem rowV_up {n j:Nat} (hj:j<n) (l:List RowP) (RA:Nat->Option Addr) (RC:Nat->Nat) (X:Option Addr) (d:Nat):(rowsC 2 n (rowV l RA RC)).set (j*2+1) (.slice X (rA l j).vals.length d)=rowsC 2 n (rowV l (kndA RA j X) (kndN RC j d)):=by
 rw [rowsC_set _ hj (by decide)]
 refine rowsC_congr fun a ha i hi=>?_
 unfold rowV kndA kndN
 by_cases h:a=j
 ·subst h
  rcases (show i=0∨i=1 by omega) with rfl | rfl
  ·rw [if_neg (by rintro ⟨-,h⟩;cases h)]
   rfl
  ·rw [if_pos ⟨rfl,rfl⟩,if_pos rfl,if_pos rfl]
   rfl
 ·rw [if_neg (fun k=>h k.1),if_neg h,if_neg h]
def RetCl (l:List RowP) (w:World) (e:Ending) (w':World):Prop:=∃ X c,e=.returned (.slice X l.length c)/\RwsO w w' X l.length c l
set_option maxHeartbeats 4000000 in
set_option maxRecDepth 100000 in
theorem clonerows_c (L:Option Addr) (LC:Nat) (l:List RowP) (RA:Nat->Option Addr) (RC:Nat->Nat) (w:World) (hl:RowsM w L l RA RC) (h2000:l.length<=2000) (hv50:∀ j,j<l.length->(rA l j).vals.length<=1000000) :
  Calls Tryz.prog 41 #[.slice L l.length LC] w (RetCl l w):=by
 have HLM:=Lib.hid hl
 have HCR:=Lib.hid (cloneR_c l RA RC L LC w hl.rows (by omega))
 have HCS:=Lib.hid (fun j (hj:j<l.length) A c w h=>cloneS_c (rA l j).vals A c w h (hv50 j hj))
 unfold RetCR at HCR
 unfold RetCS at HCS
 unfold RetCl
 obtain ⟨n,hn⟩:∃ x,l.length=x:=⟨_,rfl⟩
 have HN:=Lib.hid hn
 rw [hn] at HCR HCS h2000 ⊢
 clear hn hl hv50
 go_enter Tryz.func41,Tryz.ntmps41
 go_wp2_with fail
 refine HCR.out.mono ?_
 rintro _ w1 ⟨X,d,rfl,hown,hb1⟩
 have HOW:=Lib.hid hown;have HB1:=Lib.hid hb1
 have hcap:=own_cap hown
 clear hown hb1 HCR
 go_wp2_with fail
 go_loopw [9] (fun i wr=>∃ (j:Nat) (RA':Nat->Option Addr) (RC':Nat->Nat),j<=n/\i=.int .i64 j/\Hid (wr.ownsRow w.heap.size 39 2 (.slice X n d) n (rowsC 2 n (rowV l RA' RC')))/\Hid (∀ k,k<j->RowS wr (rA l k) (RA' k) (RC' k))/\Hid (∀ k,j<=k->RA' k=RA k/\RC' k=RC k)/\Hid (Below w.heap.size w wr)) (fun i _=>n-(intOf i).toNat)
 case atStart=>exact ⟨0,RA,RC,by omega,rfl,HOW,Lib.hid (fun k hk=>absurd hk (Nat.not_lt_zero _)),Lib.hid (fun k _=>⟨rfl,rfl⟩),HB1⟩
 case round=>
  clear HOW HB1
  obtain ⟨j,RA',RC',hj,rfl,HO,HS,HE,HB⟩:=hrel
  rcases Nat.lt_or_ge j n with hlt | hge
  ·obtain ⟨g,hX,hbg,hgs,hcells⟩:=own_rowF HO.out (by omega)
   subst hX
   have c0:=(hcells (j*2) (by omega)).trans (rowsC_at (k:=2) (f:=rowV l RA' RC') (i:=0) hlt (by decide))
   have c1:=(hcells (j*2+1) (by omega)).trans (rowsC_at (k:=2) (f:=rowV l RA' RC') (i:=1) hlt (by decide))
   have fz:=(HO.out).frozenAt (j*2+1)
   have hRM:=(HLM.out.below HB.out).each j (by rw [HN.out];exact hlt)
   have HCJ:=Lib.hid (fun A c w h=>HCS.out j hlt A c w h)
   have he:=HE.out j (Nat.le_refl _)
   have HUP:=Lib.hid (fun Y e=>rowV_up hlt l RA' RC' Y e)
   unfold rowV at c0 c1
   rw [he.1,he.2] at c1
   obtain ⟨r,hr⟩:∃ x,rA l j=x:=⟨_,rfl⟩
   have HRR:=Lib.hid hr
   rw [hr] at c0 c1 hRM HCJ HUP
   generalize RA j=RJ at c1 hRM
   generalize RC j=CJ at c1 hRM
   obtain ⟨rt,vs⟩:=r
   simp only at c0 c1 HCJ HUP
   have HRM:=Lib.hid hRM
   obtain ⟨nv,hnv⟩:∃ x,vs.length=x:=⟨_,rfl⟩
   have HNV:=Lib.hid hnv
   rw [hnv] at c1 HCJ HUP
   have HRD:=Lib.hid (heap_new wr (.cells #[.string rt,.slice RJ nv CJ] 39) rfl)
   have hbd:Below wr.heap.size wr (wr.alloc (.cells #[.string rt,.slice RJ nv CJ] 39)):=by go_grown
   have hzr:=HB.out.size
   have HB2:=Lib.hid (below_then hbd HB.out hzr)
   have HO2:=Lib.hid (HO.out.alloc (.cells #[.string rt,.slice RJ nv CJ] 39))
   have HS2:=Lib.hid (show ∀ k,k<j->RowS (wr.alloc (.cells #[.string rt,.slice RJ nv CJ] 39)) (rA l k) (RA' k) (RC' k) from fun k hk=>⟨(HS.out k hk).vals.below hbd,(HS.out k hk).len,(HS.out k hk).size,(HS.out k hk).tag⟩)
   have hSV:=HRM.out.vals.below hbd
   clear hr hnv he hRM hcells fz
   go_upto_region 5 with fail
   obtain ⟨rb,hrb⟩:∃ x,wr.heap.size=x:=⟨_,rfl⟩
   rw [hrb] at HRD
   try rw [hrb]
   generalize wr.alloc (.cells #[.string rt,.slice RJ nv CJ] 39)=w2 at HRD HB2 HO2 HS2 hSV ⊢
   have HSV:=Lib.hid hSV
   clear hrb c0 c1 hbd HB HO HS hSV
   obtain ⟨r0,r1,-,-,-⟩:=box2 HRD.out
   go_wp2_with fail
   refine (HCJ.out RJ CJ _ HSV.out).mono ?_
   rintro _ w3 ⟨Y,e,rfl,hown3,hb3⟩
   have HO3:=Lib.hid (own_below HO2.out hb3)
   have hz2:=HB2.out.size
   have HB3:=Lib.hid (below_then hb3 HB2.out hz2)
   have HS3:=Lib.hid (show ∀ k,k<j->RowS w3 (rA l k) (RA' k) (RC' k) from fun k hk=>⟨(HS2.out k hk).vals.below hb3,(HS2.out k hk).len,(HS2.out k hk).size,(HS2.out k hk).tag⟩)
   have HY:=Lib.hid (own_rowS (r:=⟨rt,vs⟩) (w:=w3) (A:=Y) (c:=e) (by rw [show (⟨rt,vs⟩:RowP).vals.length=nv from HNV.out];exact hown3) HRM.out.size HRM.out.tag)
   have fz:=HO3.out.frozenAt (j*2+1)
   clear hown3 hb3 r0 r1 HO2 HB2 HS2 HSV HCJ
   obtain ⟨cur,hcur,-⟩:=own_obj HO3.out
   have HCUR:=Lib.hid hcur
   clear hcur
   have hk9:∀ {r:RowP} {A:Option Addr} {c:Nat},RowS w3 r A c->RowS (w3.setCell ⟨g,j*2+1,none⟩ (.slice Y nv e)) r A c:=fun h=>⟨h.vals.keep fun g' cs f hh=>heap_far hh (heap_ne hh HCUR.out (by decide)) _,h.len,h.size,h.tag⟩
   have HO4:=Lib.hid (show (w3.setCell ⟨g,j*2+1,none⟩ (.slice Y nv e)).ownsRow w.heap.size 39 2 (.slice (some ⟨g,0,none⟩) n d) n (rowsC 2 n (rowV l (kndA RA' j Y) (kndN RC' j e))) by rw [<- HUP.out Y e];exact own_setAt HO3.out (by omega) _)
   have HS4:=Lib.hid (show ∀ k,k<j+1->RowS (w3.setCell ⟨g,j*2+1,none⟩ (.slice Y nv e)) (rA l k) (kndA RA' j Y k) (kndN RC' j e k) from fun k hk=>by
    unfold kndA kndN
    by_cases h:k=j
    ·subst h
     rw [if_pos rfl,if_pos rfl,HRR.out]
     exact hk9 HY.out
    ·rw [if_neg h,if_neg h]
     exact hk9 (HS3.out k (by omega)))
   have HE4:=Lib.hid (show ∀ k,j+1<=k->kndA RA' j Y k=RA k/\kndN RC' j e k=RC k from fun k hk=>by
    unfold kndA kndN
    rw [if_neg (by omega),if_neg (by omega)]
    exact HE.out k (by omega))
   have HB4:=Lib.hid (show Below w.heap.size w (w3.setCell ⟨g,j*2+1,none⟩ (.slice Y nv e)) from HB3.out.setCell (p:=⟨g,j*2+1,none⟩) hbg _)
   clear hk9 HS3 HY HE HB3 HCUR
   have c9:=(HO3.out.cellAt (j*2+1) (by omega)).trans (rowsC_at (k:=2) (f:=rowV l RA' RC') (i:=1) hlt (by decide))
   unfold rowV at c9
   simp only at c9
   go_wp2
   go_roundw
   case rel=>first | exact ⟨j+1,_,_,by omega,by go_num,HO4,HS4,HE4,HB4⟩ | ((repeat apply Exists.intro);exact ⟨⟨j+1,_,_,by omega,by go_num,HO4,HS4,HE4,HB4⟩,rfl⟩)
   case measure=>simp [intOf];omega
  ·obtain rfl:j=n:=by omega
   have HR:=Lib.hid (show RwsO w wr X j d l from ⟨RA',RC',HN.out,HO.out,fun k hk=>HS.out k (by rw [<- HN.out];exact hk),HB.out⟩)
   go_wp2
   go_ret
   exact ⟨X,d,rfl,HR.out⟩
end Go.Proofs.YtbfbgappinilmaaGreatDoor
