/- The walk of slices.Equal at equal rows of strings. -/
import Derived.Test.YtbfbgappinilmaaGreatDoorY3
import Derived.Test.YtbfbgappinilmaaGreatDoorTFE
import Derived.Test.YtbfbgappinilmaaGreatDoorTFG
import Derived.Test.YtbfbgappinilmaaGreatDoorTFH
import Derived.Test.YtbfbgappinilmaaGreatDoorTFJ
import Derived.Test.YtbfbgappinilmaaGreatDoorC5
import Derived.Test.YtbfbgappinilmaaGreatDoorC9
import Derived.Test.YtbfbgappinilmaaGreatDoorA5
-- merged: YA TFK TFM
namespace Go.Proofs.YtbfbgappinilmaaGreatDoor
open Go.RowKit Limb Nmb Work
set_option linter.unusedVariables false
set_option linter.unusedSimpArgs false
set_option maxHeartbeats 1000000 in
set_option maxRecDepth 100000 in
theorem eqstrs_q (L:List ByteArray) (A B:Option Addr) (c d:Nat) (w:World) (ha:Svs w A L) (hb:Svs w B L) (hm:L.length<=9223372036854775807) :
  Calls Tryz.prog 18 #[.slice A L.length c,.slice B L.length d] w fun e w'=>e=.returned (.bool true)/\∃ q,w'=w.drewN q:=by
 have HA:=Lib.hid ha;have HB:=Lib.hid hb
 obtain ⟨n,hnn⟩:∃ x,L.length=x:=⟨_,rfl⟩
 have HN:=Lib.hid hnn
 rw [hnn] at hm ⊢
 clear ha hb hnn
 go_enter Tryz.func18,Tryz.ntmps18
 go_wp2
 go_loopw [13] (fun y wx=>∃ j:Nat,j<=n/\y=.int .i64 j/\∃ q,wx=w.drewN q) (fun y _=>n-(intOf y).toNat)
 case atStart=>exact ⟨0,Nat.zero_le _,rfl,0,rfl⟩
 case round=>
  obtain ⟨j,hj,rfl,q,rfl⟩:=hrel
  rcases Nat.lt_or_ge j n with hlt | hge
  ·obtain ⟨a,oa,rfl,-,ca⟩:=HA.out (by rw [HN.out];omega)
   obtain ⟨b,ob,rfl,-,cb⟩:=HB.out (by rw [HN.out];omega)
   have a0:=ca j (by rw [HN.out];exact hlt)
   have b0:=cb j (by rw [HN.out];exact hlt)
   obtain ⟨s,hs⟩:∃ x,wd L j=x:=⟨_,rfl⟩
   rw [hs] at a0 b0
   clear ca cb hs
   go_wp2_with fail
   go_quiet (fail)
   have e:(w.drewN q).drewN nq=w.drewN (q+nq):=World.drewN_drewN _ _ _
   rw [e]
   go_wp2
   go_roundw
   case rel=>exact ⟨j+1,by omega,by go_num,q+nq,rfl⟩
   case measure=>simp [intOf];omega
  ·obtain rfl:j=n:=by omega
   go_wp2
   go_ret
   exact ⟨rfl,q,rfl⟩
theorem eqstrs_c (L:List ByteArray) (A B:Option Addr) (c d:Nat) (w:World) (ha:Svs w A L) (hb:Svs w B L) (hm:L.length<=9223372036854775807) :
  Calls Tryz.prog 18 #[.slice A L.length c,.slice B L.length d] w fun e w'=>e=.returned (.bool true)/\Below w.heap.size w w' :=
 (eqstrs_q L A B c d w ha hb hm).mono fun _ _ ⟨he,q,hq⟩=>⟨he,by subst hq;exact below_drewN (Below.refl _ _) _⟩
theorem Tryz.infoDc:(Tryz.prog.info? 31).map (fun i=>(i.zero,i.size,i.bytes))=some (some (.agg #[.int .i64 0,.int .i64 0]),2,16):=by kernel_rfl
def decC (ds:List (Int×Int)):List Value:=ds.flatMap fun d=>[.int .i64 d.1,.int .i64 d.2]
theorem decC_snoc (ds:List (Int×Int)) (u p:Int):decC (ds++[(u,p)])=decC ds++[.int .i64 u,.int .i64 p]:=by
 unfold decC
 simp
theorem decC_at:∀ {ds:List (Int×Int)} {j:Nat},j<ds.length->(decC ds)[j*2]?=some (.int .i64 (dU ds j))/\(decC ds)[j*2+1]?=some (.int .i64 (dP ds j))
 | d :: ds,0,_=>⟨rfl,rfl⟩
 | d :: ds,j+1,h=>by
  have h1:=decC_at (ds:=ds) (j:=j) (by simp at h;omega)
  have e:decC (d :: ds)=[.int .i64 d.1,.int .i64 d.2]++decC ds:=rfl
  rw [e,List.getElem?_append_right (by simp;omega),List.getElem?_append_right (by simp;omega)]
  have e1:(j+1)*2-([.int .i64 d.1,.int .i64 d.2]:List Value).length=j*2:=by simp;omega
  have e2:(j+1)*2+1-([.int .i64 d.1,.int .i64 d.2]:List Value).length=j*2+1:=by simp;omega
  rw [e1,e2]
  exact h1
structure BothM (w1 wr:World) (X:Option Addr) (n c:Nat) (l:List RowP) (RA:Nat->Option Addr) (RC:Nat->Nat) (D:Option Addr) (k d:Nat) (ds:List (Int×Int)):Prop where
 len:l.length=n
 own:wr.ownsRow w1.heap.size 39 2 (.slice X n c) n (rowsC 2 n (rowV l RA RC))
 each:∀ j,j<l.length->RowS wr (rA l j) (RA j) (RC j)
 bel:Below w1.heap.size w1 wr
 dlen:ds.length=k
 down:wr.ownsRow w1.heap.size 31 2 (.slice D k d) k (decC ds)
theorem BothM.below {w1 wr W:World} {X D:Option Addr} {n c k d:Nat} {l:List RowP} {RA:Nat->Option Addr} {RC:Nat->Nat} {ds:List (Int×Int)} (h:BothM w1 wr X n c l RA RC D k d ds) (hb:Below wr.heap.size wr W):BothM w1 W X n c l RA RC D k d ds :=
 ⟨h.len,own_below h.own hb,fun j hj=>⟨(h.each j hj).vals.below hb,(h.each j hj).len,(h.each j hj).size,(h.each j hj).tag⟩,below_then hb h.bel h.bel.size,h.dlen,own_below h.down hb⟩
theorem sts_two {W:World} {gs:Nat} {a s:ByteArray} (hS:W.heap[gs]?=some (.cells #[.string a,.string s] 9 (0,0))):Sts W (some ⟨gs,0,none⟩) [a,s]:=fun _=>by
 refine ⟨gs,0,_,_,rfl,hS,fun j hj=>?_⟩
 match j,hj with
 | 0,_=>rfl
 | 1,_=>rfl
theorem BothM.rows {w1 wr W wA:World} {X X' D:Option Addr} {n c c' k d gs:Nat} {l:List RowP} {RA:Nat->Option Addr} {RC:Nat->Nat} {ds:List (Int×Int)} {tag a s:ByteArray} (h:BothM w1 wr X n c l RA RC D k d ds) (hb:Below wr.heap.size wr W)
  (hS:W.heap[gs]?=some (.cells #[.string a,.string s] 9 (0,0))) (ha:a.size<=9223372036854775807) (hs:s.size<=9223372036854775807) (ht:tag.size<=9223372036854775807)
  (hg:W.grownBy wA (Value.slice X n c).ownBlock) (ho:wA.ownsRow w1.heap.size 39 2 (.slice X' (n+1) c') (n+1) (rowsC 2 n (rowV l RA RC)++[.string tag,.slice (some ⟨gs,0,none⟩) 2 2])) :
  BothM w1 wA X' (n+1) c' (l++[⟨tag,[a,s]⟩]) (kndA RA l.length (some ⟨gs,0,none⟩)) (kndN RC l.length 2) D k d ds:=by
 have h2:=h.below hb
 have hr:RowS W ⟨tag,[a,s]⟩ (some ⟨gs,0,none⟩) 2:=⟨sts_two hS,⟨by simp,by omega⟩,fun x hx=>by
  simp at hx
  rcases hx with rfl | rfl
  ·exact ha
  ·exact hs,ht⟩
 obtain ⟨l1,l2,l3,l4,l5,l6⟩:=h2
 subst l1
 have hk:∀ {q:RowP} {Q:Option Addr} {e:Nat},RowS W q Q e->RowS wA q Q e:=fun hq=>⟨hq.vals.keep fun g cs f hh=>grown_type l2 hg hh (by decide),hq.len,hq.size,hq.tag⟩
 refine ⟨by simp,by rw [<- rwL_rows];exact ho,fun j hj=>?_,l4.grown hg l4.size (fun j hj=>(l2.lt j hj).1),l5,town_grown l6 l2 hg (by decide)⟩
 rw [rA_snoc]
 unfold kndA kndN
 by_cases hj2:j=l.length
 ·rw [if_pos hj2,if_pos hj2,if_pos hj2]
  exact hk hr
 ·rw [if_neg hj2,if_neg hj2,if_neg hj2]
  have hjl:j<l.length:=by simp at hj;omega
  exact hk (l3 j hjl)
theorem BothM.decs {w1 wr W wB:World} {X D D':Option Addr} {n c k d d':Nat} {l:List RowP} {RA:Nat->Option Addr} {RC:Nat->Nat} {ds:List (Int×Int)} {u p:Int} (h:BothM w1 wr X n c l RA RC D k d ds) (hb:Below wr.heap.size wr W)
  (hg:W.grownBy wB (Value.slice D k d).ownBlock) (ho:wB.ownsRow w1.heap.size 31 2 (.slice D' (k+1) d') (k+1) (decC ds++[.int .i64 u,.int .i64 p])) :
  BothM w1 wB X n c l RA RC D' (k+1) d' (ds++[(u,p)]):=by
 obtain ⟨l1,l2,l3,l4,l5,l6⟩:=h.below hb
 refine ⟨l1,town_grown l2 l6 hg (by decide),fun j hj=>⟨(l3 j hj).vals.keep fun g cs f hh=>grown_type l6 hg hh (by decide),(l3 j hj).len,(l3 j hj).size,(l3 j hj).tag⟩,l4.grown hg l4.size (fun j hj=>(l6.lt j hj).1),by simp [l5],by rw [decC_snoc];exact ho⟩
def BothO (w1 wr:World) (X:Option Addr) (n c:Nat) (l:List RowP) (D:Option Addr) (k d:Nat) (ds:List (Int×Int)):Prop:=∃ RA RC,BothM w1 wr X n c l RA RC D k d ds
theorem BothO.nil (w1:World):BothO w1 w1 none 0 0 [] none 0 0 []:=⟨fun _=>none,fun _=>0,rfl,World.ownsRow_nil _ _ _ _,fun j hj=>absurd hj (Nat.not_lt_zero _),Below.refl _ _,rfl,World.ownsRow_nil _ _ _ _⟩
theorem BothO.below {w1 wr W:World} {X D:Option Addr} {n c k d:Nat} {l:List RowP} {ds:List (Int×Int)} (h:BothO w1 wr X n c l D k d ds) (hb:Below wr.heap.size wr W):BothO w1 W X n c l D k d ds:=by
 obtain ⟨RA,RC,h⟩:=h
 exact ⟨RA,RC,h.below hb⟩
theorem BothO.bel {w1 wr:World} {X D:Option Addr} {n c k d:Nat} {l:List RowP} {ds:List (Int×Int)} (h:BothO w1 wr X n c l D k d ds):Below w1.heap.size w1 wr:=by
 obtain ⟨RA,RC,h⟩:=h
 exact h.bel
theorem BothO.out {w1 wr:World} {X D:Option Addr} {n c k d:Nat} {l:List RowP} {ds:List (Int×Int)} (h:BothO w1 wr X n c l D k d ds) (hr:∀ d∈ds,(-9223372036854775808<=d.1/\d.1<=9223372036854775807)/\(-9223372036854775808<=d.2/\d.2<=9223372036854775807)) :
  (∃ RA RC,RowsM wr X l RA RC)/\(n<=c/\c<=9223372036854775807)/\Decs wr D k ds:=by
 obtain ⟨RA,RC,h⟩:=h
 have hR:RwsO w1 wr X n c l:=⟨RA,RC,h.len,h.own,h.each,h.bel⟩
 refine ⟨hR.rowsM,hR.cap,h.dlen,hr,fun hn=>?_⟩
 obtain ⟨g,rfl,_,hl,hc⟩:=own_rowF h.down hn
 have hd:=h.dlen
 refine ⟨g,0,rfl,hl,fun j hj=>?_⟩
 have h1:=decC_at (ds:=ds) (j:=j) (by omega)
 rw [Nat.zero_add]
 exact ⟨(hc (j*2) (by omega)).trans h1.1,(hc (j*2+1) (by omega)).trans h1.2⟩
def olnO (x:OLf):OLn:=⟨x.art,x.u,x.p⟩
theorem qty_ok {u p:Int} (h:QtyO u p):0<u/\(0<=p/\p<=3)/\scaled u p 3<=1000000000000:=by
 obtain ⟨h1,⟨h2,h3,h4⟩,h5⟩:=h
 have hd:=decB_out h1
 refine ⟨by omega,⟨by omega,h2⟩,?_⟩
 have h6:u*((10 ^ (3-p.toNat):Nat):Int)<=1000000000*((10 ^ p.toNat:Nat):Int)*((10 ^ (3-p.toNat):Nat):Int):=Int.mul_le_mul_of_nonneg_right h4 (Int.natCast_nonneg _)
 rw [Int.mul_assoc,<- Int.natCast_mul,<- Nat.pow_add,show p.toNat+(3-p.toNat)=3 by omega] at h6
 unfold scaled
 exact h6
theorem ord_all {l:List OLf} (h:OrdO l) {x:OLn} (hx:x∈l.map olnO):OLnK x:=by
 obtain ⟨y,hy,rfl⟩:=List.mem_map.1 hx
 obtain ⟨j,hj,e⟩:=List.getElem_of_mem hy
 have h1:=h.2.2 j hj
 rw [<- olA_get hj,e] at h1
 have h2:=qty_ok h1.2
 exact ⟨h1.1,h2.1,h2.2.1,h2.2.2⟩
def linsF (l:List OLf):List Lin:=(l.map olnO).map linO
theorem linsF_len (l:List OLf):(linsF l).length=l.length:=by simp [linsF]
theorem ord_lins {l:List OLf} (h:OrdO l):LinsK (linsF l):=⟨fun x hx=>by
 obtain ⟨y,hy,rfl⟩:=List.mem_map.1 hx
 exact lin_ok (ord_all h hy),by rw [linsF_len];exact h.1,by rw [linsF_len];exact h.2.1⟩
def decsF (l:List OLf):List (Int×Int):=decsO (l.map olnO)
theorem take_rows {l:List OLf} {j:Nat} (h:j<l.length):linRs (linsF (l.take (j+1)))=linRs (linsF (l.take j))++[linR (linO (olnO (olA l j)))]:=by
 rw [List.take_succ_eq_append_getElem h,olA_get h]
 simp [linRs,linsF]
theorem take_decs {l:List OLf} {j:Nat} (h:j<l.length):decsF (l.take (j+1))=decsF (l.take j)++[((olA l j).u,(olA l j).p)]:=by
 rw [List.take_succ_eq_append_getElem h,olA_get h]
 simp [decsF,decsO,olnO]
theorem readText25:readText [50,46,53]=(25,1,0):=by decide
theorem alive_c (w:World):Calls Tryz.prog 5 #[] w fun e w'=>e=.returned (.bool true)/\Below w.heap.size w w':=by
 have he:readText (⟨#[50,46,53]⟩:ByteArray).data.toList=(25,1,0):=readText25
 go_enter Tryz.func5,Tryz.ntmps5
 go_wp2_with fail
 refine (readtext_c ⟨#[50,46,53]⟩ _ (by decide)).mono ?_
 rintro e w1 ⟨rfl,hb1⟩
 rw [he]
 clear he
 go_wp2
 go_ret
 exact ⟨rfl,by go_grown;exact hb1.size⟩
theorem qty_text {x:OLf} (h:LnO x) {s:ByteArray} (hs:s.data.toList=textR (leastF x.u x.p.toNat).1 (leastF x.u x.p.toNat).2):s=qtyS (linO (olnO x)).u (linO (olnO x)).q:=by
 have h1:=qty_ok h.2
 have hk:OLnK (olnO x):=⟨h.1,h1.1,h1.2.1,h1.2.2⟩
 have hl:=lin_ok hk
 have h2:=scl_ge (q:=(linO (olnO x)).q) (a:=3) hl.pos
 have h3:=hl.full
 have h4:=hl.q3
 have h5:=textR_ok (u:=(linO (olnO x)).u) (q:=(linO (olnO x)).q) hl.pos (by omega) (by omega)
 have h6:=least_le x.u x.p.toNat
 have e:(((linO (olnO x)).q:Nat):Int)=(leastF x.u x.p.toNat).2:=by
  show (((leastF x.u x.p.toNat).2.toNat:Nat):Int)=_
  omega
 rw [e] at h5
 have h7:textR (leastF x.u x.p.toNat).1 (leastF x.u x.p.toNat).2=textL (linO (olnO x)).u (linO (olnO x)).q:=h5
 unfold qtyS
 rw [<- h7,<- hs]
 exact (bs_self s).symm
theorem qty_decF {x:OLf} (h:LnO x):decF (leastF x.u x.p.toNat).1 (leastF x.u x.p.toNat).2=0:=by
 have h1:=qty_ok h.2
 have hk:OLnK (olnO x):=⟨h.1,h1.1,h1.2.1,h1.2.2⟩
 have hl:=lin_ok hk
 have h2:=scl_ge (q:=(linO (olnO x)).q) (a:=3) hl.pos
 have h3:=hl.full
 have h6:=least_le x.u x.p.toNat
 have hp:=hl.pos
 have h8:(linO (olnO x)).u=(leastF x.u x.p.toNat).1:=rfl
 have e:(((linO (olnO x)).q:Nat):Int)=(leastF x.u x.p.toNat).2:=by
  show (((leastF x.u x.p.toNat).2.toNat:Nat):Int)=_
  omega
 have h4:=hl.q3
 unfold decF
 rw [if_pos]
 unfold decB
 simp
 omega
theorem wr_rows (rs:List RowP):wrT (fltF 0) rs=rowsT rs:=rfl
theorem lin37_len (l:List OLf):(linRs (linsF l)).length=l.length:=by rw [lin_len,linsF_len]
theorem all37_len (l:List OLf):(allRs (linsF l)).length=l.length+1:=by rw [all_len,linsF_len]
theorem mk37 {m:Int} (h:FltM m):0<=(fltF m).mark/\(fltF m).mark<=255:=by
 rcases h with rfl | rfl
 ·exact ⟨by show (0:Int)<=0;decide,by show (0:Int)<=255;decide⟩
 ·exact ⟨by show (0:Int)<=59;decide,by show (59:Int)<=255;decide⟩
theorem qt37 (m:Int):0<=(fltF m).quote/\(fltF m).quote<=255:=⟨by show (0:Int)<=0;decide,by show (0:Int)<=255;decide⟩
theorem kn37 (m:Int):(fltF m).kinds.length<=2:=Nat.le_refl _
theorem closed37 {l:List OLf} (ho:OrdO l) {A X:Option Addr} {FA RA:Nat->Option Addr} {FC RC:Nat->Nat} {c:Nat} {w:World} (hk:Kinds w A (fltF 0).kinds FA FC) (hl:RowsM w X (linRs (linsF l)) RA RC) (hc:l.length<=c) (ht:Tab w) :
  Calls Tryz.prog 8 #[fmtG (fltF 0) A 2,.slice X l.length c] w fun e w'=>∃ X2 c2,e=.returned (.tuple #[.slice X2 (l.length+1) c2,.int .i64 0])/\(∃ RA RC,RowsM w' X2 (allRs (linsF l)) RA RC)/\Below w.heap.size w w':=by
 have h:=Closed_c (fltF 0) A 2 FA FC X c (linRs (linsF l)) RA RC w hk hl (by rw [lin37_len];exact hc) (kn37 0) (mk37 (.inl rfl)) (qt37 0) ht
 rw [lin37_len,lin_closed (.inl rfl) (ord_lins ho)] at h
 refine h.mono ?_
 rintro e w' ⟨X2,c2,he,h1,h2,h3⟩
 simp only at he h1
 rw [all37_len] at he
 exact ⟨X2,c2,he,h1,h3⟩
noncomputable def txt37 (l:List OLf):ByteArray:=bs (wrT (fltF 0) (allRs (linsF l)))
theorem txt37_len {l:List OLf} (ho:OrdO l):(wrT (fltF 0) (allRs (linsF l))).length<=500000:=by
 have h:=rowsT_len (ord_lins ho) (allRs (linsF l)).length (Nat.le_refl _)
 rw [List.take_length,all37_len] at h
 have h2:=ho.2.1
 rw [wr_rows]
 omega
theorem write37 {l:List OLf} (ho:OrdO l) {A X:Option Addr} {FA RA:Nat->Option Addr} {FC RC:Nat->Nat} {c:Nat} {m0:Int} {w:World} (hk:Kinds w A (fltF 0).kinds FA FC) (hl:RowsM w X (allRs (linsF l)) RA RC) (ht:Tab w) (hM:w.cell? ⟨1,0,none⟩=some (.int .i64 m0)) :
  Calls Tryz.prog 10 #[fmtG (fltF 0) A 2,.slice X (l.length+1) c] w (RetWr (txt37 l) w):=by
 have h2:=ho.2.1
 have h:=fwrite_c (fltF 0) A 2 FA FC X c (allRs (linsF l)) RA RC m0 w hk hl (kn37 0) (flt_chk (.inl rfl)) (mk37 (.inl rfl)) (qt37 0) ht hM (by rw [all37_len];omega) (fun j hj=>by rw [all_ok (ord_lins ho) hj 0 (.inl rfl)]) (txt37_len ho)
 rw [all37_len] at h
 exact h
theorem read37 {l:List OLf} (ho:OrdO l) {A:Option Addr} {FA:Nat->Option Addr} {FC:Nat->Nat} {m0:Int} {w:World} (hk:Kinds w A (fltF 0).kinds FA FC) (ht:Tab w) (hM:w.cell? ⟨1,0,none⟩=some (.int .i64 m0)) :
  Calls Tryz.prog 11 #[fmtG (fltF 0) A 2,.string (txt37 l)] w fun e w'=>∃ X c,e=.returned (.tuple #[.slice X (l.length+1) c,.int .i64 0,.int .i64 0,.int .i64 0])/\(∃ RA RC,RowsM w' X (allRs (linsF l)) RA RC)/\Below w.heap.size w w':=by
 have h2:=ho.2.1
 have h:=fread_c (fltF 0) A 2 FA FC (allRs (linsF l)) m0 w hk (kn37 0) (flt_chk (.inl rfl)) rfl rfl ht hM (by rw [all37_len];omega) (fun j hj=>⟨(all_read (ord_lins ho) hj).1,(all_read (ord_lins ho) hj).2.2⟩) (txt37_len ho)
 refine h.mono ?_
 rintro e w' ⟨X,c,he,-,h1,h3⟩
 rw [all37_len] at he
 exact ⟨X,c,he,h1,h3⟩
theorem turn37 {l:List OLf} (ho:OrdO l) {A B X:Option Addr} {FA GA RA:Nat->Option Addr} {FC GC RC:Nat->Nat} {c:Nat} {w:World} (hk:Kinds w A (fltF 0).kinds FA FC) (hg:Kinds w B (fltF 59).kinds GA GC) (hl:RowsM w X (allRs (linsF l)) RA RC) (ht:Tab w) :
  Calls Tryz.prog 12 #[fmtG (fltF 0) A 2,fmtG (fltF 59) B 2,.slice X (l.length+1) c] w fun e w'=>∃ X c,e=.returned (.tuple #[.slice X (l.length+1) c,.int .i64 0,.int .i64 0])/\(∃ RA RC,RowsM w' X (allRs (linsF l)) RA RC)/\(l.length+1<=c/\c<=9223372036854775807)/\Below w.heap.size w w':=by
 have h:=TurnedC_c (fltF 0) (fltF 59) A B 2 2 FA GA FC GC X c (allRs (linsF l)) RA RC w hk hg hl (kn37 0) (kn37 59) (mk37 (.inl rfl)) (qt37 0) (mk37 (.inr rfl)) (qt37 59) ht
 rw [all_turn (ord_lins ho),all37_len] at h
 refine h.mono ?_
 rintro e w' ⟨X2,c2,he,h1,h2,h3⟩
 simp only at he h1 h2
 rw [all37_len] at he h2
 exact ⟨X2,c2,he,h1,h2,h3⟩
theorem tot37 {l:List OLf} (ho:OrdO l) {A X:Option Addr} {FA RA:Nat->Option Addr} {FC RC:Nat->Nat} {c:Nat} {w:World} (hk:Kinds w A (fltF 59).kinds FA FC) (hl:RowsM w X (allRs (linsF l)) RA RC) (hc:l.length+1<=c/\c<=9223372036854775807) (ht:Tab w) :
  Calls Tryz.prog 13 #[fmtG (fltF 59) A 2,.slice X (l.length+1) c] w (RetNF 0 0 w):=by
 have h2:=ho.2.1
 have h:=CheckTotals_c (fltF 59) A 2 FA FC X c (allRs (linsF l)) RA RC w hk hl (by rw [all37_len];exact hc.1) hc.2 (by rw [all37_len];omega) (kn37 59) (mk37 (.inr rfl)) (qt37 59) ht
 rw [all_tot (.inr rfl) (ord_lins ho),all37_len] at h
 exact h
theorem sum37 {l:List OLf} (ho:OrdO l) {A X:Option Addr} {FA RA:Nat->Option Addr} {FC RC:Nat->Nat} {c:Nat} {w:World} (hk:Kinds w A (fltF 59).kinds FA FC) (hl:RowsM w X (allRs (linsF l)) RA RC) (ht:Tab w) :
  Calls Tryz.prog 14 #[fmtG (fltF 59) A 2,.slice X (l.length+1) c,.string ⟨#[76]⟩,.string ⟨#[113,117,97,110,116,105,116,121]⟩] w (RetD (sumU (linsF l),(sumQ (linsF l):Int),0) w):=by
 have h:=SumOf_c (fltF 59) A 2 FA FC X c (allRs (linsF l)) RA RC wLn wQty w hk hl (kn37 59) (mk37 (.inr rfl)) (qt37 59) ht
 rw [all_sum (ord_lins ho),all37_len] at h
 exact h
theorem col37 {l:List OLf} (ho:OrdO l) {A X:Option Addr} {FA RA:Nat->Option Addr} {FC RC:Nat->Nat} {c:Nat} {w:World} (hk:Kinds w A (fltF 59).kinds FA FC) (hl:RowsM w X (allRs (linsF l)) RA RC) (ht:Tab w) :
  Calls Tryz.prog 17 #[fmtG (fltF 59) A 2,.slice X (l.length+1) c,.string ⟨#[84]⟩,.string ⟨#[109,97,110,121]⟩] w fun e w'=>∃ A2 c2,e=.returned (.tuple #[.slice A2 1 c2,.int .i64 0])/\Svs w' A2 [bs (Lib.itoa (l.length:Int))]/\Below w.heap.size w w':=by
 have h:=Column6_c (fltF 59) A 2 FA FC X c (allRs (linsF l)) RA RC wTl wMny w hk hl (kn37 59) (mk37 (.inr rfl)) (qt37 59) ht
 rw [all_count (ord_lins ho),all37_len,linsF_len] at h
 refine h.mono ?_
 rintro e w' ⟨A2,c2,he,h1,-,-,h3⟩
 exact ⟨A2,c2,he,h1,h3⟩
theorem decs37_B {l:List OLf} (ho:OrdO l):allB (decsF l)=true:=List.all_eq_true.2 fun d hd=>by
 unfold decsF decsO at hd
 rw [List.map_map] at hd
 obtain ⟨y,hy,rfl⟩:=List.mem_map.1 hd
 obtain ⟨j,hj,e⟩:=List.getElem_of_mem hy
 have h1:=(ho.2.2 j hj).2.1
 rw [<- olA_get hj,e] at h1
 exact h1
theorem decs37_R {l:List OLf} (ho:OrdO l):∀ d∈decsF l,(-9223372036854775808<=d.1/\d.1<=9223372036854775807)/\(-9223372036854775808<=d.2/\d.2<=9223372036854775807):=fun d hd=>by
 have h:=decB_out (List.all_eq_true.1 (decs37_B ho) d hd)
 omega
theorem exact37 {l:List OLf} (ho:OrdO l):∃ E p:Int,(∀ (D:Option Addr) (d:Nat) (w:World),Decs w D l.length (decsF l)->Calls Tryz.prog 15 #[.slice D l.length d] w (RetD (E,p,0) w)) /\
  (∀ w:World,Calls Tryz.prog 16 #[.agg #[.int .i64 (sumU (linsF l)),.int .i64 (sumQ (linsF l):Int)],.agg #[.int .i64 E,.int .i64 p]] w (RetIF 0 0 w)):=by
 have h5:=ho.2.1
 have hk:=ord_lins ho
 obtain ⟨E,p,h1,h2,h3⟩:=exact_sum (l:=l.map olnO) (fun x hx=>ord_all ho hx) (by rw [List.length_map];exact h5)
 refine ⟨E,p,fun D d w hd=>?_,fun w=>?_⟩
 ·have h:=sum_ok (decsF l) D l.length d w hd (by omega) (decs37_B ho)
  unfold decsF at h
  rw [h1] at h
  exact h
 ·have h6:=sumU_ok hk.all hk.some hk.many
  have h7:=scl_ge (q:=sumQ (linsF l)) (a:=3) h6.2.1
  have h:=cmp_ok (sumU (linsF l)) (sumQ (linsF l):Int) E p w (decB_mk (by omega)) h2
  have h8:scaled (sumU (linsF l)) (sumQ (linsF l):Int) 9=sumL (linsF l)*1000000:=by
   have h9:scaled (sumU (linsF l)) (sumQ (linsF l):Int) 9=scaled (sumU (linsF l)) (sumQ (linsF l):Int) 3*((10 ^ 6:Nat):Int):=by
    unfold scaled
    rw [Int.mul_assoc,<- Int.natCast_mul,<- Nat.pow_add,show 3-((sumQ (linsF l):Nat):Int).toNat+6=9-((sumQ (linsF l):Nat):Int).toNat by omega]
   rw [h9,h6.2.2.2.1]
   rfl
  rw [h8,h3,show sumL ((l.map olnO).map linO)=sumL (linsF l) from rfl,Int.sub_self] at h
  exact h
end Go.Proofs.YtbfbgappinilmaaGreatDoor
