/- What is lost between two formats, plain. The walks of what is lost: the width of a shape, texts, days. -/
import Derived.Test.YtaiabjiehpcaoaaGreatDoorM2
import Derived.Test.YtaiabjiehpcaoaaGreatDoorK5
import Derived.Test.YtaiabjiehpcaoaaGreatDoorFE
import Derived.Deep.AppendSrc
import Derived.Test.YtaiabjiehpcaoaaGreatDoorF9
import Derived.Test.YtaiabjiehpcaoaaGreatDoorY1
import Derived.Test.YtaiabjiehpcaoaaGreatDoorY4
import Derived.Test.YtaiabjiehpcaoaaGreatDoorT14
-- merged: Z0 Z2 ZP Z3 Z4 Z5 Z6 Z7 ZT Z8 Z9 ZA ZC
namespace Go.Proofs.YtaiabjiehpcaoaaGreatDoor
open Limb Nmb Work
set_option linter.unusedVariables false
set_option linter.unusedSimpArgs false
end Go.Proofs.YtaiabjiehpcaoaaGreatDoor
namespace Go.Proofs.YtaiabjiehpcaoaaGreatDoor
open Go.RowKit Limb Nmb Work
set_option linter.unusedVariables false
set_option linter.unusedSimpArgs false
theorem zk_cells (w:World) (us:List Value) (t:TypeId):∀ j x,us[j]?=some x->(w.alloc (.cells us.toArray t)).cell? ((⟨w.heap.size,0,none⟩:Addr).add j)=some x:=by
 intro j x hj
 rw [Addr.add_lit,cell_of_row _ _ _ _ _ _ (heap_alloc_new w _)]
 simpa using hj
theorem QbN {P:Program} {w:World} {ops:Array Oper} {rest:List Oper} {o:Oper} {a:Act} {Q:Exit->Act->World->Prop}
  (hg:o.guard=none) (s x:Operand) (t:TypeId) (hop:o.op=Op.call { callee:=Callee.builtin Builtin.append,args:=#[s,x],argTypes:=#[t,t] })
  (base:Nat) (e:TypeId) (i:TypeInfo) (z:Value) (size bytes:Nat) (h1:P.underlying t=some (.slice e)) (h2:P.info? e=some i) (hz:i.zero=some z) (h4:i.size=size) (hby:i.bytes=bytes) (hzs:z.cells.size=size) (hsz:0<size)
  (v:Value) (n:Nat) (xs:List Value) (hs:a.eval s=v) (hown:w.ownsRow base e size v n xs) (us:List Value) (hus:us.length=size) (hx:a.eval x=.slice (some ⟨w.heap.size,0,none⟩) 1 1)
  (h1c:∀ u∈us,u.oneCell'=true) (b1:n+1<=maxLen) (b2:(n+1)*bytes<=140737488355328) (hbase:base<=w.heap.size)
  (hK:∀ A c w',w'.ownsRow base e size (.slice A (n+1) c) (n+1) (xs++us)->w.grownBy w' v.ownBlock->wpList P ops Q rest (a.put o.dst (.slice A (n+1) c)) w') :
  wpList P ops Q (o :: rest) a (w.alloc (.cells us.toArray e)) :=
 wpList_append_own _ hg s x t hop base e i z size bytes h1 h2 hz h4 hby hzs hsz v n xs hs (hown.alloc _) ⟨w.heap.size,0,none⟩ 1 1 us hx (by omega) (zk_cells w us e) h1c b1 b2 (by simp;omega) fun v' w' r1 r2 _=>by
  obtain ⟨A,c,rfl⟩:=own_slice r1
  exact hK A c w' r1 (Qbc r2)
theorem run_append_nilZ {P:Program} {w:World} {base:Nat} {t ty e:TypeId} {i:TypeInfo} {size n c c':Nat} {A:Option Addr} {xs:List Value} (ht:P.underlying t=some (.slice e)) (hi:P.info? e=some i) (hs:i.size=size) (hown:w.ownsRow base e size (.slice A n c) n xs) :
  (Builtin.append_ #[t,t] ty #[.slice A n c,.slice none 0 c']).run P w=.ok (.slice A n c) w:=by
 have hc:=Qal hown
 cases A with
 | some a=>
  obtain ⟨-,h | ⟨g,cap,cur,hv,-⟩⟩:=hown
  ·cases h.1
  ·cases hv
   have:=run_append_room_src (P:=P) w t t ty e i ht hi g 0 n c (.slice none 0 c') 0 [] (Src.ofNil w ht c') (by omega) (fun j hj=>by simp at hj) (fun j hj=>by simp at hj)
   simpa [World.setCells] using this
 | none=>
  obtain ⟨-,h | ⟨g,cap,cur,hv,-⟩⟩:=hown
  ·obtain ⟨h1,h2⟩:=h
   subst h2
   have hn:0+0<=c:=Nat.zero_le _
   simp [Builtin.append_,run_underlying ht,sizeOf,typeInfo,hi,(Src.ofNil (P:=P) w ht c':Src P i.size t _ 0 [] w).len,(Src.ofNil (P:=P) w ht c':Src P i.size t _ 0 [] w).cells]
  ·cases hv
theorem wpList_zapp {P:Program} {w:World} {ops:Array Oper} {rest:List Oper} {o:Oper} {a:Act} {Q:Exit->Act->World->Prop}
  (hg:o.guard=none) (s x:Operand) (t:TypeId) (hop:o.op=Op.call { callee:=Callee.builtin Builtin.append,args:=#[s,x],argTypes:=#[t,t] })
  (base:Nat) (e:TypeId) (i:TypeInfo) (z:Value) (size bytes:Nat) (h1:P.underlying t=some (.slice e)) (h2:P.info? e=some i) (hz:i.zero=some z) (h4:i.size=size) (hby:i.bytes=bytes) (hzs:z.cells.size=size) (hsz:0<size)
  (A:Option Addr) (n c:Nat) (xs:List Value) (hs:a.eval s=.slice A n c) (hown:w.ownsRow base e size (.slice A n c) n xs) (X:Option Addr) (m d:Nat) (news:List Value) (hl:news.length=m*size) (hx:a.eval x=.slice X m d)
  (hsrc:0<m->∃ b off,X=some ⟨b,off,none⟩/\∀ j u,news[j]?=some u->w.cell? ⟨b,off+j,none⟩=some u)
  (h1c:∀ u∈news,u.oneCell'=true) (b1:n+m<=maxLen) (b2:(n+m)*bytes<=140737488355328) (hbase:base<=w.heap.size)
  (hK:∀ A' c' w',w'.ownsRow base e size (.slice A' (n+m) c') (n+m) (xs++news)->w.grownBy w' (Value.slice A n c).ownBlock->wpList P ops Q rest (a.put o.dst (.slice A' (n+m) c')) w') :
  wpList P ops Q (o :: rest) a w:=by
 cases X with
 | some ad=>
  refine wpList_append_own _ hg s x t hop base e i z size bytes h1 h2 hz h4 hby hzs hsz (.slice A n c) n xs hs hown ad m d news hx hl ?_ h1c b1 b2 hbase fun v' w' r1 r2 _=>?_
  ·rcases Nat.eq_zero_or_pos m with h0 | h0
   ·subst h0
    have:news=[]:=List.eq_nil_of_length_eq_zero (by omega)
    subst this
    intro j u h;simp at h
   ·obtain ⟨b,off,e1,hc⟩:=hsrc h0
    cases e1
    intro j u hj
    rw [Addr.add_lit]
    exact hc j u hj
  ·obtain ⟨A',c',rfl⟩:=own_slice r1
   exact hK A' c' w' r1 r2
 | none=>
  have h0:m=0:=by
   rcases Nat.eq_zero_or_pos m with h0 | h0
   ·exact h0
   ·obtain ⟨b,off,e1,-⟩:=hsrc h0
    cases e1
  subst h0
  have hn:news=[]:=List.eq_nil_of_length_eq_zero (by omega)
  subst hn
  refine wpList_plain hg fun K hKK=>?_
  have hr:=run_append_nilZ (P:=P) (w:=w) (t:=t) (ty:=o.type) (c':=d) h1 h2 h4 hown
  unfold Oper.wp execOp
  simp only [hop,resolve,invoke,builtin,Sem.run_bind,Sem.run_pure,Result.andThen_ok,List.map_toArray,List.map_cons,List.map_nil,hs,hx,hr]
  refine hKK _ _ (hK A c w (by simpa using hown) (World.grownBy.refl _ _))
theorem FmtK.places {f:Fmt} (hf:FmtK f) {j:Nat} (hj:j<f.kinds.length) {i:Nat} (hi:i<(kA f.kinds j).fields.length):(cA (kA f.kinds j).fields i).kind=2->0<=(cA (kA f.kinds j).fields i).places/\(cA (kA f.kinds j).fields i).places<=9:=((hf.kinds j hj).cols i hi).places
theorem kinds_cols {w:World} {A:Option Addr} {ks:List RKd} {FA:Nat->Option Addr} {FC:Nat->Nat} (h:Kinds w A ks FA FC) {j:Nat} (hj:j<ks.length):Cols w (FA j) (kA ks j).fields:=(h.2.2 j hj).1
end Go.Proofs.YtaiabjiehpcaoaaGreatDoor
namespace Go.Proofs.YtaiabjiehpcaoaaGreatDoor
open Limb Nmb Work
set_option linter.unusedVariables false
set_option linter.unusedSimpArgs false
end Go.Proofs.YtaiabjiehpcaoaaGreatDoor
namespace Go.Proofs.YtaiabjiehpcaoaaGreatDoor
open Go.RowKit Limb Nmb Work
set_option linter.unusedVariables false
set_option linter.unusedSimpArgs false
theorem own_set9 {w:World} {B n g i:Nat} {v:Value} {xs:List Value} {cs:Array Value} {U:TypeId} (h:w.ownsRow B 9 1 v n xs) (hh:w.heap[g]?=some (.cells cs U (0,0))) (hU:U≠9) (u:Value):(w.setCell ⟨g,i,none⟩ u).ownsRow B 9 1 v n xs :=
 own_keepT h fun g' cs' h'=>Qaf h' (p:=⟨g,i,none⟩) (fun e=>hU (by
  have e':g'=g:=e
  subst e'
  rw [hh] at h'
  injection h' with h'
  injection h')) u
def rwL (r:RowP) (A:Option Addr) (c:Nat):List Value:=[.string r.tag,.slice A r.vals.length c]
theorem rA_snoc {l:List RowP} {r:RowP} {j:Nat} : rA (l++[r]) j=if j=l.length then r else rA l j:=by
 unfold rA
 rw [List.getD_eq_getElem?_getD,List.getD_eq_getElem?_getD]
 rcases Nat.lt_trichotomy j l.length with h | h | h
 ·rw [if_neg (by omega),List.getElem?_append_left h]
 ·subst h;simp
 ·rw [if_neg (by omega),List.getElem?_append_right (by omega),List.getElem?_eq_none (by simp;omega),List.getElem?_eq_none (by omega)]
theorem rwL_rows {l:List RowP} {r:RowP} {RA:Nat->Option Addr} {RC:Nat->Nat} {A:Option Addr} {c:Nat} : QaL 2 l.length (rowV l RA RC)++rwL r A c=QaL 2 (l.length+1) (rowV (l++[r]) (kndA RA l.length A) (kndN RC l.length c)):=by
 rw [rowsC_succ]
 congr 1
 ·refine rowsC_congr fun j hj i hi=>?_
  unfold rowV kndA kndN
  rw [rA_snoc,if_neg (by omega),if_neg (by omega),if_neg (by omega)]
 ·simp only [rowV,kndA,kndN,rA_snoc,if_pos,List.range_succ,List.range_zero,List.nil_append,List.map_cons,List.map_nil,List.cons_append]
  rfl
structure RowS (w:World) (r:RowP) (A:Option Addr) (c:Nat):Prop where
 vals:Sts w A r.vals
 len:r.vals.length<=c/\c<=9223372036854775807
 size:∀ s∈r.vals,s.size<=9223372036854775807
 tag:r.tag.size<=9223372036854775807
theorem RowS.rowM {w:World} {r:RowP} {A:Option Addr} {c:Nat} (h:RowS w r A c):RowM w r A c:=⟨h.vals.svs,h.len,h.size,h.tag⟩
def RwsO (w1 wr:World) (X:Option Addr) (n c:Nat) (l:List RowP):Prop :=
 ∃ (RA:Nat->Option Addr) (RC:Nat->Nat),l.length=n/\wr.ownsRow w1.heap.size 49 2 (.slice X n c) n (QaL 2 n (rowV l RA RC))/\(∀ j,j<l.length->RowS wr (rA l j) (RA j) (RC j))/\Below w1.heap.size w1 wr
theorem RwsO.nil (w1:World) {wr:World} (hb:Below w1.heap.size w1 wr):RwsO w1 wr none 0 0 []:=⟨fun _=>none,fun _=>0,rfl,World.ownsRow_nil _ _ _ _,fun j hj=>absurd hj (Nat.not_lt_zero _),hb⟩
theorem RwsO.bel {w1 wr:World} {X:Option Addr} {n c:Nat} {l:List RowP} (h:RwsO w1 wr X n c l):Below w1.heap.size w1 wr:=by obtain ⟨_,_,_,_,_,hb⟩:=h;exact hb
theorem RwsO.len {w1 wr:World} {X:Option Addr} {n c:Nat} {l:List RowP} (h:RwsO w1 wr X n c l):l.length=n:=by obtain ⟨_,_,h,_⟩:=h;exact h
theorem RwsO.below {w1 wr w':World} {X:Option Addr} {n c:Nat} {l:List RowP} (h:RwsO w1 wr X n c l) (hb:Below wr.heap.size wr w'):RwsO w1 w' X n c l:=by
 obtain ⟨RA,RC,h1,h2,h3,h4⟩:=h
 exact ⟨RA,RC,h1,QaM h2 hb,fun j hj=>⟨(h3 j hj).vals.below hb,(h3 j hj).len,(h3 j hj).size,(h3 j hj).tag⟩,Qab hb h4 h4.size⟩
theorem RwsO.rowsM {w1 wr:World} {X:Option Addr} {n c:Nat} {l:List RowP} (h:RwsO w1 wr X n c l):∃ RA RC,RowsM wr X l RA RC:=by
 obtain ⟨RA,RC,h1,h2,h3,-⟩:=h
 have hc:=Qal h2
 subst h1
 exact ⟨RA,RC,own_rwsK h2,fun j hj=>(h3 j hj).rowM,by have:=hc.1;have:=hc.2;unfold maxLen at *;omega⟩
theorem RwsO.push {w1 wr w':World} {X X' A:Option Addr} {n c c' d:Nat} {l:List RowP} {r:RowP} {RA:Nat->Option Addr} {RC:Nat->Nat} (h1:l.length=n) (h2:wr.ownsRow w1.heap.size 49 2 (.slice X n c) n (QaL 2 n (rowV l RA RC))) (h3:∀ j,j<l.length->RowS wr (rA l j) (RA j) (RC j)) (h4:Below w1.heap.size w1 wr) (hr:RowS wr r A d)
  (ho:w'.ownsRow w1.heap.size 49 2 (.slice X' (n+1) c') (n+1) (QaL 2 n (rowV l RA RC)++rwL r A d)) (hg:wr.grownBy w' (Value.slice X n c).ownBlock):RwsO w1 w' X' (n+1) c' (l++[r]):=by
 subst h1
 have hk:∀ {q:RowP} {Q:Option Addr} {e:Nat},RowS wr q Q e->RowS w' q Q e:=fun hq=>⟨hq.vals.keep fun g cs f hh=>QbD h2 hg hh (by decide),hq.len,hq.size,hq.tag⟩
 refine ⟨kndA RA l.length A,kndN RC l.length d,by simp,by rw [<- rwL_rows];exact ho,fun j hj=>?_,h4.grown hg h4.size (fun j hj=>(h2.lt j hj).1)⟩
 rw [rA_snoc]
 unfold kndA kndN
 by_cases hj2:j=l.length
 ·rw [if_pos hj2,if_pos hj2,if_pos hj2]
  exact hk hr
 ·rw [if_neg hj2,if_neg hj2,if_neg hj2]
  have hjl:j<l.length:=by simp at hj;omega
  exact hk (h3 j hjl)
theorem own_rowS {w:World} {B:Nat} {A:Option Addr} {c:Nat} {r:RowP} (h:w.ownsRow B 9 1 (.slice A r.vals.length c) r.vals.length (Qbv r.vals)) (hs:∀ s∈r.vals,s.size<=9223372036854775807) (ht:r.tag.size<=9223372036854775807):RowS w r A c:=by
 have hc:=Qal h
 refine ⟨fun hn=>?_,⟨hc.1,by have:=hc.2;unfold maxLen at this;omega⟩,hs,ht⟩
 obtain ⟨g,e,h2,-,-⟩:=yown_sts h hn
 subst e
 exact h2 hn
theorem Tryz.infoRow:(Tryz.prog.info? 49).map (fun i=>(i.zero,i.size,i.bytes))=some (some (.agg #[.string ⟨#[]⟩,.slice none 0 0]),2,40):=by kernel_rfl
end Go.Proofs.YtaiabjiehpcaoaaGreatDoor
namespace Go.Proofs.YtaiabjiehpcaoaaGreatDoor
open Limb Nmb Work
set_option linter.unusedVariables false
set_option linter.unusedSimpArgs false
theorem textL_len (u:Int) (q:Nat):(textL u q).length=(if u<0 then 1 else 0)+(if (Lib.decDigits u.natAbs).length<=q then 1 else (Lib.decDigits u.natAbs).length-q)+(if q=0 then 0 else 1+q):=by
 unfold textL befL behL sgL padL digL
 have hd:=dec_ne u.natAbs
 simp only [List.length_append,List.length_take,List.length_replicate]
 have hs:(if u<0 then ([45]:List UInt8) else []).length=if u<0 then 1 else 0:=by split<;>rfl
 rw [hs]
 by_cases hq:q=0
 ·subst hq
  have h2:¬ (Lib.decDigits u.natAbs).length<=0:=by omega
  rw [if_pos rfl,if_pos rfl,if_neg h2]
  simp only [List.length_nil]
  omega
 ·rw [if_neg hq,if_neg hq]
  simp only [List.length_cons,List.length_drop,List.length_append,List.length_replicate]
  by_cases h1:(Lib.decDigits u.natAbs).length<=q
  ·rw [if_pos h1];omega
  ·rw [if_neg h1];omega
end Go.Proofs.YtaiabjiehpcaoaaGreatDoor
