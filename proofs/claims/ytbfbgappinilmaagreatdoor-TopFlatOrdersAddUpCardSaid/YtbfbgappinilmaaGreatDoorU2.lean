/- What the amounts' functions compute, in plain numbers. No program in sight. -/
import Derived.Test.YtbfbgappinilmaaGreatDoorMem
import Derived.Lib.Bytealg
import Derived.Lib.SplitLaws
import Derived.Lib.IndexBytes
import Derived.Lib.Hide
import Derived.Test.YtbfbgappinilmaaGreatDoorProg
import Derived.Lib.Atoi
-- merged: Spec U1 F0 Q0 D2 E0 K1 M0 F6 U2
namespace Go.Proofs.YtbfbgappinilmaaGreatDoor
open Go.RowKit Limb
def decB (u p:Int):Bool:=decide (-1000000000000000<=u/\u<=1000000000000000/\0<=p/\p<=9)
theorem decB_mk {u p:Int} (h : -1000000000000000<=u/\u<=1000000000000000/\0<=p/\p<=9):decB u p=true:=decide_eq_true h
theorem decB_out {u p:Int} (h:decB u p=true) : -1000000000000000<=u/\u<=1000000000000000/\0<=p/\p<=9:=of_decide_eq_true h
theorem decB_not {u p:Int} (h:decB u p=false):¬ (-1000000000000000<=u/\u<=1000000000000000/\0<=p/\p<=9):=of_decide_eq_false h
def scaled (u p:Int) (q:Nat):Int:=u*((10 ^ (q-p.toNat):Nat):Int)
theorem scaled_bound {u p:Int} {q:Nat} (hu : -1000000000000000<=u/\u<=1000000000000000) (hq:q<=9) : -1000000000000000000000000<=scaled u p q/\scaled u p q<=1000000000000000000000000:=by
 unfold scaled
 have h1:10 ^ (q-p.toNat)<=10 ^ 9:=Nat.pow_le_pow_right (by omega) (by omega)
 have h0:0<10 ^ (q-p.toNat):=Nat.pow_pos (by omega)
 generalize 10 ^ (q-p.toNat)=k at *
 have h2:u*(k:Int)<=1000000000000000*k:=Int.mul_le_mul_of_nonneg_right hu.2 (by omega)
 have h3 : -1000000000000000*(k:Int)<=u*k:=Int.mul_le_mul_of_nonneg_right hu.1 (by omega)
 omega
def dU (ds:List (Int×Int)) (j:Nat):Int:=(ds.getD j (0,0)).1
def dP (ds:List (Int×Int)) (j:Nat):Int:=(ds.getD j (0,0)).2
def Decs (w:World) (A:Option Addr) (n:Nat) (ds:List (Int×Int)):Prop :=
 ds.length=n/\(∀ d∈ds,(-9223372036854775808<=d.1/\d.1<=9223372036854775807)/\(-9223372036854775808<=d.2/\d.2<=9223372036854775807)) /\
  (0<n->∃ b off,A=some ⟨b,off,none⟩/\b<w.heap.size/\∀ j,j<n->w.cell? ⟨b,off+j*2,none⟩=some (.int .i64 (dU ds j))/\w.cell? ⟨b,off+j*2+1,none⟩=some (.int .i64 (dP ds j)))
theorem Decs.below {w w':World} {A:Option Addr} {n:Nat} {ds:List (Int×Int)} (h:Decs w A n ds) (hb:Below w.heap.size w w'):Decs w' A n ds :=
 ⟨h.1,h.2.1,fun hn=>by
  obtain ⟨b,off,e,hl,hc⟩:=h.2.2 hn
  exact ⟨b,off,e,Nat.lt_of_lt_of_le hl hb.size,fun j hj=>⟨(hb.cell (p:=⟨b,off+j*2,none⟩) hl).trans (hc j hj).1,(hb.cell (p:=⟨b,off+j*2+1,none⟩) hl).trans (hc j hj).2⟩⟩⟩
theorem Decs.alloc {w:World} {A:Option Addr} {n:Nat} {ds:List (Int×Int)} (h:Decs w A n ds) (o:Obj):Decs (w.alloc o) A n ds:=h.below ((Below.refl _ _).alloc (Nat.le_refl _) o)
theorem dec_get {ds:List (Int×Int)} {j:Nat} (h:j<ds.length):ds[j]=(dU ds j,dP ds j):=by
 unfold dU dP
 rw [List.getD_eq_getElem?_getD,List.getElem?_eq_getElem h]
 rfl
def allB (ds:List (Int×Int)):Bool:=ds.all fun d=>decB d.1 d.2
theorem allB_at {ds:List (Int×Int)} (h:allB ds=true) {j:Nat} (hj:j<ds.length):decB (dU ds j) (dP ds j)=true:=by
 have:=List.all_eq_true.1 h ds[j] (List.getElem_mem hj)
 rw [dec_get hj] at this
 exact this
def made (z p:Int):Int×Int×Int:=if z.natAbs<=1000000000000000 then (z,p,0) else (0,0,1)
def RetD (r:Int×Int×Int) (w:World) (e:Ending) (w':World):Prop :=
 e=.returned (.tuple #[.agg #[.int .i64 r.1,.int .i64 r.2.1],.int .i64 r.2.2])/\Below w.heap.size w w'
def maxP (ds:List (Int×Int)):Int:=ds.foldl (fun m d=>max m d.2) 0
def sumZ (ds:List (Int×Int)) (q:Nat):Int:=ds.foldl (fun z d=>z+scaled d.1 d.2 q) 0
def sumR (ds:List (Int×Int)):Int×Int×Int :=
 if 1000<ds.length then (0,0,2) else if allB ds then made (sumZ ds (maxP ds).toNat) (maxP ds) else (0,0,1)
theorem foldl_snoc {α β:Type} (f:β->α->β) (b:β) (l:List α) (k:Nat) (h:k<l.length):(l.take (k+1)).foldl f b=f ((l.take k).foldl f b) l[k]:=by
 rw [List.take_succ_eq_append_getElem h,List.foldl_append];rfl
theorem maxP_step {ds:List (Int×Int)} {j:Nat} (h:j<ds.length):maxP (ds.take (j+1))=max (maxP (ds.take j)) (dP ds j):=by
 unfold maxP;rw [foldl_snoc _ _ _ _ h,dec_get h]
theorem sumZ_step {ds:List (Int×Int)} {q j:Nat} (h:j<ds.length):sumZ (ds.take (j+1)) q=sumZ (ds.take j) q+scaled (dU ds j) (dP ds j) q:=by
 unfold sumZ;rw [foldl_snoc _ _ _ _ h,dec_get h]
theorem maxP_bound {ds:List (Int×Int)} (h:allB ds=true):∀ j,j<=ds.length->0<=maxP (ds.take j)/\maxP (ds.take j)<=9:=by
 intro j
 induction j with
 | zero=>intro _;simp [maxP]
 | succ j ih=>
  intro hj
  rw [maxP_step (by omega)]
  have:=ih (by omega)
  have h2:=decB_out (allB_at h (j:=j) (by omega))
  omega
theorem maxP_ge {ds:List (Int×Int)} : ∀ k j,j<k->k<=ds.length->dP ds j<=maxP (ds.take k):=by
 intro k
 induction k with
 | zero=>intro j h;omega
 | succ k ih=>
  intro j hj hk
  rw [maxP_step (by omega)]
  rcases Nat.lt_or_ge j k with h | h
  ·have:=ih j h (by omega);omega
  ·have:j=k:=by omega
   subst this;omega
theorem sumZ_bound {ds:List (Int×Int)} {q:Nat} (h:allB ds=true) (hq:q<=9):∀ j:Nat,j<=ds.length -> -1000000000000000000000000*(j:Int)<=sumZ (ds.take j) q/\sumZ (ds.take j) q<=1000000000000000000000000*(j:Int):=by
 intro j
 induction j with
 | zero=>intro _;simp [sumZ]
 | succ j ih=>
  intro hj
  rw [sumZ_step (by omega)]
  have:=ih (by omega)
  have h2:=decB_out (allB_at h (j:=j) (by omega))
  have h3:=scaled_bound (u:=dU ds j) (p:=dP ds j) (q:=q) (by omega) hq
  omega
theorem decs_two (w:World) {u p v q:Int} {g:Nat} (t:TypeId) (hg:g=w.heap.size) (hu : -9223372036854775808<=u/\u<=9223372036854775807) (hp : -9223372036854775808<=p/\p<=9223372036854775807) (hv : -9223372036854775808<=v/\v<=9223372036854775807) (hq : -9223372036854775808<=q/\q<=9223372036854775807) :
  Decs (w.alloc (.cells #[.int .i64 u,.int .i64 p,.int .i64 v,.int .i64 q] t)) (some ⟨g,0,none⟩) 2 [(u,p),(v,q)]:=by
 subst hg
 refine ⟨rfl,fun d hd=>?_,fun _=>⟨w.heap.size,0,rfl,by simp,fun j hj=>?_⟩⟩
 ·simp at hd
  rcases hd with rfl | rfl
  ·exact ⟨hu,hp⟩
  ·exact ⟨hv,hq⟩
 ·have hB:=heap_new w (.cells #[.int .i64 u,.int .i64 p,.int .i64 v,.int .i64 q] t) rfl
  match j,hj with
  | 0,_=>exact ⟨cell_of_row _ _ 0 _ _ _ hB,cell_of_row _ _ 1 _ _ _ hB⟩
  | 1,_=>exact ⟨cell_of_row _ _ 2 _ _ _ hB,cell_of_row _ _ 3 _ _ _ hB⟩
theorem allB_two {u p v q:Int} : allB [(u,p),(v,q)]=(decB u p&&decB v q):=by simp [allB]
theorem scaled_small {u p:Int} {q:Nat} (h:decB u p=true) (hq:q<=9):Small (scaled u p q):=by
 have h:=decB_out h
 have:=scaled_bound (p:=p) (u:=u) (by omega) hq
 unfold Small
 have:1000000000000000000000000<10 ^ 200:=by decide
 omega
end Go.Proofs.YtbfbgappinilmaaGreatDoor
namespace Go.Proofs.YtbfbgappinilmaaGreatDoor
open Go.RowKit
set_option linter.unusedVariables false
set_option linter.unusedSimpArgs false
structure Unt where
 name:ByteArray
 of:ByteArray
 num:Int
 den:Int
def u0:Unt:=⟨⟨#[]⟩,⟨#[]⟩,0,0⟩
def lowB (c:UInt8):Bool:=decide (97<=c.toNat/\c.toNat<=122)
def nameC (c:UInt8):Bool:=lowB c||decide (48<=c.toNat/\c.toNat<=57)||c.toNat==45
def nameB (l:List UInt8):Bool:=decide (1<=l.length/\l.length<=40)&&lowB (l.headD 0)&&l.all nameC
end Go.Proofs.YtbfbgappinilmaaGreatDoor
namespace Go.Proofs.YtbfbgappinilmaaGreatDoor
open Nmb
set_option linter.unusedVariables false
structure Col where
 name:ByteArray
 kind:Int
 width:Int
 places:Int
 form:Int
 right:Bool
 fill:Int
 need:Bool
 deriving DecidableEq
structure RKd where
 tag:ByteArray
 fields:List Col
 most:Int
 under:ByteArray
 deriving DecidableEq
structure Fmt where
 mark:Int
 quote:Int
 kinds:List RKd
 head:ByteArray
 tail:ByteArray
 count:ByteArray
 sum:ByteArray
 deriving DecidableEq
def col0:Col:=⟨⟨#[]⟩,0,0,0,0,false,0,false⟩
def kind0:RKd:=⟨⟨#[]⟩,[],0,⟨#[]⟩⟩
def cA (cs:List Col) (j:Nat):Col:=cs.getD j col0
def kA (ks:List RKd) (j:Nat):RKd:=ks.getD j kind0
theorem cA_get {cs:List Col} {j:Nat} (h:j<cs.length):cs[j]=cA cs j:=by simp [cA,List.getD_eq_getElem?_getD,h]
theorem kA_get {ks:List RKd} {j:Nat} (h:j<ks.length):ks[j]=kA ks j:=by simp [kA,List.getD_eq_getElem?_getD,h]
def ixF {α:Type} (q:α->Bool):List α->Int
 | []=>-1
 | x :: l=>if q x=true then 0 else if ixF q l<0 then -1 else ixF q l+1
theorem ixF_lo {α:Type} (q:α->Bool):∀ l:List α,-1<=ixF q l
 | []=>by unfold ixF;omega
 | x :: l=>by
  have:=ixF_lo q l
  unfold ixF
  split
  ·omega
  ·split<;>omega
theorem ixF_hit {α:Type} {q:α->Bool} : ∀ {l:List α} {k:Nat} (hk:k<l.length),q l[k]=true->(∀ j (hj:j<l.length),j<k->q l[j]=false)->ixF q l=k
 | x :: l,0,_,h,_=>by
  unfold ixF
  rw [if_pos (by simpa using h)]
  rfl
 | x :: l,k+1,hk,h,hn=>by
  have h0:=hn 0 (by simp) (by omega)
  have ih:=ixF_hit (l:=l) (k:=k) (by simpa using hk) h (fun j hj hjk=>hn (j+1) (by simpa using hj) (by omega))
  unfold ixF
  rw [if_neg (by simp only [List.getElem_cons_zero] at h0;rw [h0];decide),ih,if_neg (by omega)]
  omega
theorem ixF_no {α:Type} {q:α->Bool} : ∀ {l:List α},(∀ j (hj:j<l.length),q l[j]=false)->ixF q l=-1
 | [],_=>rfl
 | x :: l,h=>by
  have h0:=h 0 (by simp)
  have ih:=ixF_no (l:=l) (fun j hj=>h (j+1) (by simpa using hj))
  unfold ixF
  rw [if_neg (by simp only [List.getElem_cons_zero] at h0;rw [h0];decide),ih,if_pos (by omega)]
theorem ixF_spec {α:Type} (q:α->Bool):∀ l:List α,(ixF q l=-1/\∀ j (hj:j<l.length),q l[j]=false)∨∃ k,∃ hk:k<l.length,ixF q l=(k:Int)/\q l[k]=true/\∀ j (hj:j<l.length),j<k->q l[j]=false
 | []=>.inl ⟨rfl,fun j hj=>by simp at hj⟩
 | x :: l=>by
  cases hx:q x with
  | true=>exact .inr ⟨0,by simp,ixF_hit (by simp) hx (fun j _ h=>absurd h (Nat.not_lt_zero _)),hx,fun j _ h=>absurd h (Nat.not_lt_zero _)⟩
  | false=>
   rcases ixF_spec q l with ⟨h1,h2⟩|⟨k,hk,h1,h2,h3⟩
   ·have hn:∀ j (hj:j<(x :: l).length),q (x :: l)[j]=false:=fun j hj=>by
     cases j with
     | zero=>exact hx
     | succ j=>exact h2 j (by simpa using hj)
    exact .inl ⟨ixF_no hn,hn⟩
   ·have hn:∀ j (hj:j<(x :: l).length),j<k+1->q (x :: l)[j]=false:=fun j hj hjk=>by
     cases j with
     | zero=>exact hx
     | succ j=>exact h3 j (by simpa using hj) (by omega)
    exact .inr ⟨k+1,by simpa using hk,ixF_hit (by simpa using hk) h2 hn,h2,hn⟩
theorem ixF_any {α:Type} (q:α->Bool) (l:List α):decide (0<=ixF q l)=l.any q:=by
 rcases ixF_spec q l with ⟨h1,h2⟩|⟨k,hk,h1,h2,_⟩
 ·rw [h1,show l.any q=false from by
   rw [Bool.eq_false_iff]
   intro h
   obtain ⟨x,hx,h3⟩:=List.any_eq_true.1 h
   obtain ⟨j,hj,rfl⟩:=List.getElem_of_mem hx
   rw [h2 j hj] at h3
   cases h3]
  rfl
 ·rw [h1,show l.any q=true from List.any_eq_true.2 ⟨l[k],List.getElem_mem hk,h2⟩]
  exact decide_eq_true (by omega)
def markF (b:Int):Bool:=decide (b<32)||decide (126<b)||tagC b||decide (97<=b/\b<=122)||decide (b=45)||decide (b=46)
def formW (form:Int):Int:=if form=1∨form=3 then 8 else if form=4 then 10 else if form=5 then 7 else 0
def idleB (mark:Int) (c:Col):Bool :=
 (decide (c.kind=2)||decide (c.places=0))&&(decide (c.kind=3)||decide (c.form=0))&&(!decide (c.kind=3)&&decide (mark=0)||!c.right&&decide (c.fill=0))
def tagIs (t:ByteArray) (k:RKd):Bool:=decide (k.tag=t)
def nameIs (t:ByteArray) (c:Col):Bool:=decide (c.name=t)
def colF (mark:Int) (c:Col) (before:List Col):Int :=
 if nameB c.name.data.toList=false then 5
 else if before.any (nameIs c.name)=true then 7
 else if ¬ (1<=c.kind/\c.kind<=3) then 4
 else if ¬ (1<=c.width/\c.width<=100) then 1
 else if c.kind=2/\¬ (0<=c.places/\c.places<=9) then 1
 else if c.kind=3/\formW c.form=0 then 4
 else if idleB mark c=false then 3
 else if mark≠0 then 0
 else if c.kind≠3/\c.fill≠32/\¬ (c.kind=2/\c.fill=48/\c.right=true) then 3
 else if c.kind=3/\c.width≠formW c.form then 12
 else 0
def fstF (f:Nat->Int):Nat->Int
 | 0=>0
 | n+1=>if fstF f n=0 then f n else fstF f n
theorem fstF_no {f:Nat->Int} : ∀ {n:Nat},(∀ j,j<n->f j=0)->fstF f n=0
 | 0,_=>rfl
 | n+1,h=>by
  unfold fstF
  rw [fstF_no (fun j hj=>h j (by omega)),if_pos rfl,h n (by omega)]
theorem fstF_hit {f:Nat->Int} : ∀ {n k:Nat},k<n->(∀ j,j<k->f j=0)->f k≠0->fstF f n=f k
 | n+1,k,hk,h0,h1=>by
  unfold fstF
  rcases Nat.lt_or_ge k n with h | h
  ·rw [fstF_hit h h0 h1,if_neg h1]
  ·obtain rfl:k=n:=by omega
   rw [fstF_no h0,if_pos rfl]
theorem fstF_zero {f:Nat->Int} : ∀ {n:Nat},fstF f n=0->∀ j,j<n->f j=0
 | 0,_,j,hj=>absurd hj (Nat.not_lt_zero _)
 | n+1,h,j,hj=>by
  unfold fstF at h
  split at h
  ·rename_i h2
   rcases Nat.lt_or_ge j n with h3 | h3
   ·exact fstF_zero h2 j h3
   ·obtain rfl:j=n:=by omega
    exact h
  ·rename_i h2;exact absurd h h2
def colsF (mark:Int) (cs:List Col):Int:=fstF (fun i=>colF mark (cA cs i) (cs.take i)) cs.length
def kindF (mark:Int) (ks:List RKd) (i:Nat):Int :=
 if ¬ (1<=(kA ks i).tag.size/\(kA ks i).tag.size<=6)∨tagL (kA ks i).tag.data.toList=false then 3
 else if (ks.take i).any (tagIs (kA ks i).tag)=true then 7
 else if mark=0/\(kA ks i).tag.size≠(kA ks 0).tag.size then 3
 else if 50<(kA ks i).fields.length then 2
 else if colsF mark (kA ks i).fields≠0 then colsF mark (kA ks i).fields
 else if ¬ (0<=(kA ks i).most/\(kA ks i).most<=2000) then 1
 else if (kA ks i).under≠⟨#[]⟩/\(ks.take i).any (tagIs (kA ks i).under)=false then 5
 else 0
def kndF (ks:List RKd) (t:ByteArray):RKd:=if ixF (tagIs t) ks<0 then kind0 else kA ks (ixF (tagIs t) ks).toNat
def colN (k:RKd) (name:ByteArray):Col:=cA k.fields (ixF (nameIs name) k.fields).toNat
def tailF (ks:List RKd) (tail name:ByteArray) (places:Bool):Bool :=
 decide (ixF (nameIs name) (kndF ks tail).fields<0)||(decide ((colN (kndF ks tail) name).kind≠2)||!places&&decide ((colN (kndF ks tail) name).places≠0))
def endsF (f:Fmt):Int :=
 if f.head≠⟨#[]⟩/\ixF (tagIs f.head) f.kinds<0 then 5
 else if f.tail≠⟨#[]⟩/\ixF (tagIs f.tail) f.kinds<0 then 5
 else if f.head=f.tail/\f.head≠⟨#[]⟩ then 12
 else if f.tail=⟨#[]⟩/\(f.count≠⟨#[]⟩∨f.sum≠⟨#[]⟩) then 3
 else if f.count≠⟨#[]⟩/\tailF f.kinds f.tail f.count false=true then 5
 else if f.sum≠⟨#[]⟩/\tailF f.kinds f.tail f.sum true=true then 5
 else if f.count=f.sum/\f.count≠⟨#[]⟩ then 12
 else 0
def marksF (mark quote:Int):Int :=
 if mark≠0/\(markF mark=true∨quote≠0/\markF quote=true∨mark=quote) then 12
 else if mark=0/\quote≠0 then 3
 else 0
def checkF (f:Fmt):Int :=
 if marksF f.mark f.quote≠0 then marksF f.mark f.quote
 else if f.kinds.length=0 then 9
 else if 30<f.kinds.length then 2
 else if fstF (kindF f.mark f.kinds) f.kinds.length≠0 then fstF (kindF f.mark f.kinds) f.kinds.length
 else endsF f
end Go.Proofs.YtbfbgappinilmaaGreatDoor
namespace Go.Proofs.YtbfbgappinilmaaGreatDoor
set_option linter.unusedVariables false
set_option linter.unusedSimpArgs false
theorem idx_cases (g:UInt8):∀ l,(Lib.indexByte l g=-1/\g∉l)∨∃ i:Nat,Lib.indexByte l g=i/\i<l.length/\l=l.take i++g :: l.drop (i+1)/\g∉l.take i
 | []=>.inl ⟨rfl,by simp⟩
 | x :: l=>by
  unfold Lib.indexByte
  by_cases hx:x=g
  ·subst hx
   right
   exact ⟨0,by simp,by simp,by simp,by simp⟩
  ·rw [if_neg (by simpa using hx)]
   rcases idx_cases g l with ⟨h1,h2⟩|⟨i,h1,h2,h3,h4⟩
   ·left
    rw [h1]
    exact ⟨by simp,by simp only [List.mem_cons,not_or];exact ⟨fun e=>hx e.symm,h2⟩⟩
   ·right
    rw [h1]
    refine ⟨i+1,by rw [if_neg (by simp)];rfl,by simp only [List.length_cons];omega,?_,?_⟩
    ·rw [List.take_succ_cons,List.drop_succ_cons,List.cons_append,<- h3]
    ·rw [List.take_succ_cons]
     simp only [List.mem_cons,not_or]
     exact ⟨fun e=>hx e.symm,h4⟩
end Go.Proofs.YtbfbgappinilmaaGreatDoor
namespace Go.Proofs.YtbfbgappinilmaaGreatDoor.Work
def leapB (y:Int):Bool:=decide (y%4=0/\(y%100≠0∨y%400=0))
theorem leapB_yes {y:Int} (h:leapB y=true):y%4=0/\(y%100≠0∨y%400=0):=by simpa [leapB] using h
theorem leapB_no {y:Int} (h:leapB y=false):¬ (y%4=0/\(y%100≠0∨y%400=0)):=of_decide_eq_false h
def dim (y m:Int):Int:=if m=2 then (if leapB y=true then 29 else 28) else if m=4∨m=6∨m=9∨m=11 then 30 else 31
theorem dim_bd (y m:Int):28<=dim y m/\dim y m<=31:=by unfold dim;split<;>split<;>omega
def bef (y:Int):Int:=365*(y-1)+(y-1)/4-(y-1)/100+(y-1)/400
def cum (y:Int):Nat->Int
 | 0=>0
 | k+1=>cum y k+dim y ((k:Int)+1)
theorem cum_12 (y:Int):cum y 12=365+if leapB y=true then 1 else 0:=by
 simp only [cum,dim]
 simp
 split<;>omega
theorem bef_succ (y:Int):bef (y+1)=bef y+cum y 12:=by
 rw [cum_12]
 unfold bef
 by_cases h:leapB y=true
 ·rw [if_pos h]
  have:=leapB_yes h
  omega
 ·rw [if_neg h]
  have:=leapB_no (by simpa using h)
  omega
theorem cum_12_bd (y:Int):365<=cum y 12/\cum y 12<=366:=by rw [cum_12];split<;>omega
theorem cum_lt (y:Int) {i j:Nat} (h:i<j):cum y i+28<=cum y j:=by
 obtain ⟨k,rfl⟩:∃ k,j=i+k+1:=⟨j-i-1,by omega⟩
 clear h
 induction k with
 | zero=>rw [Nat.add_zero,cum];have:=dim_bd y ((i:Int)+1);omega
 | succ k ih=>
  rw [show i+(k+1)+1=i+k+1+1 by omega,cum]
  have:=dim_bd y (((i+k+1:Nat):Int)+1)
  omega
theorem cum_le (y:Int) {i j:Nat} (h:i<=j):cum y i<=cum y j:=by
 rcases Nat.eq_or_lt_of_le h with e | e
 ·rw [e];exact Int.le_refl _
 ·have:=cum_lt y e;omega
theorem bef_mono {a b:Int} (h:a<=b):bef a<=bef b:=by unfold bef;omega
theorem bef_guess {day:Int} (h:1<=day):bef (day/366+1)<day:=by unfold bef;omega
theorem bef_end:bef 10000=3652059:=by decide
theorem bef_bd {y:Int} (h:1<=y) (h2:y<=10000):0<=bef y/\bef y<=3652059:=by unfold bef;omega
def num (y m d:Int):Int:=bef y+cum y (m-1).toNat+d
def dateB (y m d:Int):Bool:=decide ((1<=y/\y<=9999)/\(1<=m/\m<=12)/\(1<=d/\d<=dim y m))
theorem dateB_yes {y m d:Int} (h:dateB y m d=true):(1<=y/\y<=9999)/\(1<=m/\m<=12)/\(1<=d/\d<=dim y m):=of_decide_eq_true h
theorem dateB_mk {y m d:Int} (h:(1<=y/\y<=9999)/\(1<=m/\m<=12)/\(1<=d/\d<=dim y m)):dateB y m d=true:=decide_eq_true h
theorem dateB_not {y m d:Int} (h:¬ ((1<=y/\y<=9999)/\(1<=m/\m<=12)/\(1<=d/\d<=dim y m))):dateB y m d=false:=decide_eq_false h
theorem num_year {y m d:Int} (h:dateB y m d=true):bef y<num y m d/\num y m d<=bef (y+1):=by
 obtain ⟨h1,h2,h3⟩:=dateB_yes h
 obtain ⟨k,rfl⟩:∃ k:Nat,m=(k:Int)+1:=⟨(m-1).toNat,by omega⟩
 have e:((k:Int)+1-1).toNat=k:=by omega
 unfold num
 rw [e,bef_succ]
 have a:=cum_le y (i:=0) (j:=k) (by omega)
 have b:=cum_le y (i:=k+1) (j:=12) (by omega)
 rw [cum] at a
 rw [cum] at b
 omega
theorem num_day {y m d:Int} (h:dateB y m d=true):1<=num y m d/\num y m d<=3652059:=by
 have h1:=num_year h
 have h2:=dateB_yes h
 have a:=bef_bd (y:=y) (by omega) (by omega)
 have b:=bef_bd (y:=y+1) (by omega) (by omega)
 omega
def DateIs (day y m d:Int):Prop:=dateB y m d=true/\num y m d=day
theorem year_unique {a b day:Int} (h1:bef a<day) (h2:day<=bef (a+1)) (h3:bef b<day) (h4:day<=bef (b+1)):a=b:=by
 rcases Int.lt_trichotomy a b with h | h | h
 ·have:=bef_mono (a:=a+1) (b:=b) (by omega);omega
 ·exact h
 ·have:=bef_mono (a:=b+1) (b:=a) (by omega);omega
end Go.Proofs.YtbfbgappinilmaaGreatDoor.Work
namespace Go.Proofs.YtbfbgappinilmaaGreatDoor.Work
theorem year_ex {day:Int} (h2:day<=3652059):∀ (n:Nat) (y:Int),y+n=9999->bef y<day->∃ z,y<=z/\z<=9999/\bef z<day/\day<=bef (z+1)
 | 0,y,hn,hb=>⟨y,by omega,by omega,hb,by rw [show y+1=10000 by omega,bef_end];exact h2⟩
 | n+1,y,hn,hb=>by
  by_cases h:day<=bef (y+1)
  ·exact ⟨y,by omega,by omega,hb,h⟩
  ·obtain ⟨z,h3,h4,h5,h6⟩:=year_ex h2 n (y+1) (by omega) (by omega)
   exact ⟨z,by omega,h4,h5,h6⟩
theorem month_ex {y r:Int} (hr:r<=cum y 12):∀ (n k:Nat),k+n=11->cum y k<r->∃ j:Nat,k<=j/\j<=11/\cum y j<r/\r<=cum y (j+1)
 | 0,k,hn,hb=>⟨k,by omega,by omega,hb,by rw [show k+1=12 by omega];exact hr⟩
 | n+1,k,hn,hb=>by
  by_cases h:r<=cum y (k+1)
  ·exact ⟨k,by omega,by omega,hb,h⟩
  ·obtain ⟨z,h3,h4,h5,h6⟩:=month_ex hr n (k+1) (by omega) (by omega)
   exact ⟨z,by omega,h4,h5,h6⟩
theorem date_ex {day:Int} (h:1<=day) (h2:day<=3652059):∃ y m d,DateIs day y m d:=by
 obtain ⟨y, y1, y2, y3, y4⟩ := year_ex h2 9998 1 (by omega) (by have : bef 1 = 0 := by decide
                                                                omega)
 rw [bef_succ] at y4
 obtain ⟨k,-,k2,k3,k4⟩:=month_ex (y:=y) (r:=day-bef y) (by omega) 11 0 (by omega) (by rw [cum];omega)
 rw [cum] at k4
 refine ⟨y,(k:Int)+1,day-bef y-cum y k,dateB_mk ⟨by omega,by omega,by omega,by omega⟩,?_⟩
 unfold num
 rw [show ((k:Int)+1-1).toNat=k by omega]
 omega
theorem DateIs.facts {day y m d:Int} (h:DateIs day y m d):(1<=y/\y<=9999)/\(1<=m/\m<=12)/\(1<=d/\d<=31)/\d<=dim y m/\bef y<day/\day<=bef (y+1):=by
 obtain ⟨h1,h2⟩:=h
 have a:=num_year h1
 have b:=dateB_yes h1
 have c:=dim_bd y m
 rw [h2] at a
 exact ⟨b.1,b.2.1,by omega,by omega,a.1,a.2⟩
def thu (day:Int):Int:=day-(day-1)%7+3
theorem thu_bd {day:Int} (h:1<=day) (h2:day<=3652059):1<=thu day/\thu day<=3652059:=by unfold thu;omega
theorem thu_ex {day:Int} (h:1<=day) (h2:day<=3652059):∃ y m d,DateIs (thu day) y m d:=by
 have:=thu_bd h h2
 exact date_ex this.1 this.2
def wk (day y:Int):Int:=(thu day-bef y-1)/7+1
theorem wk_bd {day y:Int} (h:bef y<thu day) (h2:thu day<=bef (y+1)):1<=wk day y/\wk day y<=53:=by
 have a:=bef_succ y
 have b:=cum_12_bd y
 unfold wk
 omega
end Go.Proofs.YtbfbgappinilmaaGreatDoor.Work
namespace Go.Proofs.YtbfbgappinilmaaGreatDoor.Nmb
set_option linter.unusedVariables false
def wide (l:List UInt8):List UInt8:=List.replicate (14-l.length) 48++l
end Go.Proofs.YtbfbgappinilmaaGreatDoor.Nmb
namespace Go.Proofs.YtbfbgappinilmaaGreatDoor.Work
open Nmb
set_option linter.unusedVariables false
def dvF:List UInt8->Nat->Nat
 | [],a=>a
 | c :: l,a=>dvF l (10*a+(c.toNat-48))
theorem dvF_cons (c:UInt8) (l:List UInt8) (a:Nat):dvF (c :: l) a=dvF l (10*a+(c.toNat-48)):=rfl
def dv (l:List UInt8):Nat:=dvF l 0
theorem digs_mem {l:List UInt8} (h:digs l=true):∀ c∈l,48<=c.toNat/\c.toNat<=57:=by
 intro c hc
 obtain ⟨i,hi,rfl⟩:=List.getElem_of_mem hc
 have:=(digs_yes h).2 i hi
 unfold dgt at this
 rw [byA_get hi] at this
 omega
theorem dvF_lt:∀ (l:List UInt8) (a:Nat),(∀ c∈l,48<=c.toNat/\c.toNat<=57)->dvF l a<(a+1)*10 ^ l.length
 | [],a,_=>by show a<(a+1)*1;omega
 | c :: l,a,h=>by
  have h1:=h c (by simp)
  have:=dvF_lt l (10*a+(c.toNat-48)) (fun d hd=>h d (by simp [hd]))
  rw [dvF_cons,List.length_cons,Nat.pow_succ]
  have h2:(10*a+(c.toNat-48)+1)*10 ^ l.length<=(10*(a+1))*10 ^ l.length:=Nat.mul_le_mul_right _ (by omega)
  have h3:(10*(a+1))*10 ^ l.length=(a+1)*(10 ^ l.length*10):=by rw [Nat.mul_comm 10 (a+1),Nat.mul_assoc,Nat.mul_comm 10]
  omega
theorem dv_lt {l:List UInt8} (h:digs l=true):dv l<10 ^ l.length:=by
 have:=dvF_lt l 0 (digs_mem h)
 unfold dv
 omega
theorem dv_lt4 {l:List UInt8} (h:digs l=true) (hl:l.length<=4):dv l<10000:=by
 have:=dv_lt h
 have h2:10 ^ l.length<=10 ^ 4:=Nat.pow_le_pow_right (by decide) hl
 omega
theorem dec_dv:∀ (l:List UInt8) (a:Nat),(∀ c∈l,48<=c.toNat/\c.toNat<=57)->Lib.decFrom a l=some (dvF l a)
 | [],a,_=>rfl
 | c :: l,a,h=>by
  have h1:=h c (by simp)
  have e:Lib.digitVal c=some (c.toNat-48):=by unfold Lib.digitVal;rw [if_pos h1]
  rw [Lib.decFrom,e]
  show Lib.decFrom (a*10+(c.toNat-48)) l=some (dvF l (10*a+(c.toNat-48)))
  rw [Nat.mul_comm a 10]
  exact dec_dv l _ (fun d hd=>h d (by simp [hd]))
theorem atoi_dv {l:List UInt8} (h:digs l=true):Lib.atoi l=some ((dv l:Nat):Int):=by
 have hm:=digs_mem h
 have h0:=(digs_yes h).1
 match l,hm,h0 with
 | c :: l,hm,_=>
  have h1:=hm c (by simp)
  have n45:(c==45)=false:=by
   rw [beq_eq_false_iff_ne];intro e;subst e;revert h1;decide
  have n43:(c==43)=false:=by
   rw [beq_eq_false_iff_ne];intro e;subst e;revert h1;decide
  rw [Lib.atoi,n45,n43]
  show (Lib.decNat (c :: l)).map _=_
  unfold Lib.decNat
  rw [if_neg (by simp),dec_dv (c :: l) 0 hm]
  rfl
def numF (l:List UInt8):Int:=if digs l=true then (dv l:Int) else -1
theorem numF_yes {l:List UInt8} (h:digs l=true):numF l=(dv l:Int):=if_pos h
theorem numF_no {l:List UInt8} (h:digs l=false):numF l=-1:=if_neg (by rw [h];simp)
def prt:List Nat->List UInt8->Option (List Int)
 | [],l=>if l.isEmpty=true then some [] else none
 | n :: ws,l=>if n<=l.length/\digs (l.take n)=true then (prt ws (l.drop n)).map (fun r=>((dv (l.take n):Nat):Int) :: r) else none
theorem prt_short {n:Nat} {ws:List Nat} {l:List UInt8} (h:l.length<n):prt (n :: ws) l=none:=by rw [prt,if_neg (by omega)]
theorem prt_bad {n:Nat} {ws:List Nat} {l:List UInt8} (h:digs (l.take n)=false):prt (n :: ws) l=none:=by rw [prt,if_neg (by rw [h];simp)]
theorem prt_next {n:Nat} {ws:List Nat} {l:List UInt8} (h:n<=l.length) (hd:digs (l.take n)=true):prt (n :: ws) l=(prt ws (l.drop n)).map (fun r=>((dv (l.take n):Nat):Int) :: r):=by rw [prt,if_pos ⟨h,hd⟩]
theorem prt3 {a b c:Nat} (hc:0<c) (l:List UInt8):prt [a,b,c] l =
  if l.length=a+b+c/\digs (l.take a)=true/\digs ((l.drop a).take b)=true/\digs (l.drop (a+b))=true then some [(dv (l.take a):Int),(dv ((l.drop a).take b):Int),(dv (l.drop (a+b)):Int)] else none:=by
 have hd:(l.drop a).drop b=l.drop (a+b):=by rw [List.drop_drop]
 have hlen:(l.drop (a+b)).length=l.length-(a+b):=by simp
 by_cases h1:a<=l.length/\digs (l.take a)=true
 case neg=>rw [prt,if_neg h1,if_neg (fun h=>h1 ⟨by omega,h.2.1⟩)]
 rw [prt_next h1.1 h1.2]
 by_cases h2:b<=(l.drop a).length/\digs ((l.drop a).take b)=true
 case neg=>
  rw [prt,if_neg h2,if_neg (fun h=>h2 ⟨by simp;omega,h.2.2.1⟩)];rfl
 rw [prt_next h2.1 h2.2,hd]
 have hb:b<=l.length-a:=by have:=h2.1;simpa using this
 by_cases h3:c<=(l.drop (a+b)).length/\digs ((l.drop (a+b)).take c)=true
 case neg=>
  rw [prt,if_neg h3,if_neg (fun h=>h3 ⟨by omega,by rw [List.take_of_length_le (by omega)];exact h.2.2.2⟩)];rfl
 rw [prt_next h3.1 h3.2,prt]
 by_cases h4:((l.drop (a+b)).drop c).isEmpty=true
 ·have h5:(l.drop (a+b)).length<=c:=by rw [List.isEmpty_iff] at h4;have:=congrArg List.length h4;simp at this;simp;omega
  rw [if_pos h4,List.take_of_length_le h5]
  rw [List.take_of_length_le h5] at h3
  rw [if_pos ⟨by have:=h3.1;omega,h1.2,h2.2,h3.2⟩];rfl
 ·rw [if_neg h4,if_neg (fun h=>h4 (by rw [List.isEmpty_iff];apply List.eq_nil_of_length_eq_zero;simp;omega))];rfl
def dayO (y m d:Int):Option Int:=if dateB y m d=true then some (num y m d) else none
theorem dayO_neg {y m d:Int} (h:y<1∨m<1∨d<1):dayO y m d=none:=by
 unfold dayO;rw [if_neg];intro h2;have:=dateB_yes h2;omega
def weekN (y w d:Int):Int:=bef y+4-(bef y+4-1)%7+(w-1)*7+d-1
def weekB (y w d:Int):Bool:=decide ((1<=y/\y<=9999)/\(1<=d/\d<=7)/\(1<=weekN y w d/\weekN y w d<=3652059)/\bef y<thu (weekN y w d)/\thu (weekN y w d)<=bef (y+1)/\wk (weekN y w d) y=w)
def weekO (y w d:Int):Option Int:=if weekB y w d=true then some (weekN y w d) else none
theorem week_in {y w d:Int} (h:weekB y w d=true):1<=w/\w<=53/\(weekN y w d-1)%7+1=d/\bef y+1-7<=weekN y w d/\weekN y w d<=bef y+1+380:=by
 obtain ⟨a,b,c,e,f,g⟩:=of_decide_eq_true h
 have hw:=wk_bd e f
 rw [g] at hw
 refine ⟨hw.1,hw.2,?_,?_,?_⟩
 ·unfold weekN;omega
 ·unfold weekN;omega
 ·unfold weekN;omega
theorem weekO_no {y w d:Int} (h:weekB y w d=false):weekO y w d=none:=if_neg (by rw [h];simp)
theorem weekO_yes {y w d:Int} (h:weekB y w d=true):weekO y w d=some (weekN y w d):=if_pos h
theorem weekB_neg {y w d:Int} (h:y<1∨w<1∨d<1∨7<d):weekB y w d=false:=by
 cases e:weekB y w d with
 | false=>rfl
 | true=>
  have a:=week_in e
  have b:=of_decide_eq_true e
  omega
def pointB (l:List UInt8):Bool:=decide (l.length=10/\byA l 4=45/\byA l 7=45)
def readO (form pivot:Int) (l:List UInt8):Option Int :=
 if form=1 then (if l.length=8 then dayO (numF (l.take 4)) (numF ((l.drop 4).take 2)) (numF (l.drop 6)) else none)
 else if form=2 then (if l.length=6 then (if 0<=numF (l.take 2) then dayO (pivot+(numF (l.take 2)-pivot)%100) (numF ((l.drop 2).take 2)) (numF (l.drop 4)) else none) else none)
 else if form=3 then (if l.length=8 then dayO (numF (l.drop 4)) (numF ((l.drop 2).take 2)) (numF (l.take 2)) else none)
 else if form=4 then (if pointB l=true then dayO (numF (l.take 4)) (numF ((l.drop 5).take 2)) (numF (l.drop 8)) else none)
 else (if l.length=7 then weekO (numF (l.take 4)) (numF ((l.drop 4).take 2)) (numF (l.drop 6)) else none)
def opt3 (f:Int->Int->Int->Option Int):Option (List Int)->Option Int
 | some [x,y,z]=>f x y z
 | _=>none
theorem opt3_prt {a b c:Nat} (hc:0<c) (l:List UInt8) (f:Int->Int->Int->Option Int) (hf:∀ x y z,(x=-1∨y=-1∨z=-1)->f x y z=none) :
  opt3 f (prt [a,b,c] l)=if l.length=a+b+c then f (numF (l.take a)) (numF ((l.drop a).take b)) (numF (l.drop (a+b))) else none:=by
 rw [prt3 hc]
 by_cases hl:l.length=a+b+c
 case neg=>rw [if_neg (fun h=>hl h.1),if_neg hl];rfl
 rw [if_pos hl]
 cases h1:digs (l.take a) with
 | false=>rw [if_neg (by simp),hf _ _ _ (.inl (numF_no h1))];rfl
 | true=>
 cases h2:digs ((l.drop a).take b) with
 | false=>rw [if_neg (by simp),hf _ _ _ (.inr (.inl (numF_no h2)))];rfl
 | true=>
 cases h3:digs (l.drop (a+b)) with
 | false=>rw [if_neg (by simp),hf _ _ _ (.inr (.inr (numF_no h3)))];rfl
 | true=>rw [if_pos ⟨hl,rfl,rfl,rfl⟩,numF_yes h1,numF_yes h2,numF_yes h3];rfl
end Go.Proofs.YtbfbgappinilmaaGreatDoor.Work
namespace Go.Proofs.YtbfbgappinilmaaGreatDoor
open Nmb Work
set_option linter.unusedVariables false
set_option linter.unusedSimpArgs false
def bs (l:List UInt8):ByteArray:=⟨l.toArray⟩
def eS:ByteArray:=⟨#[]⟩
def wd (L:List ByteArray) (i:Nat):ByteArray:=L.getD i eS
theorem bs_toList (l:List UInt8):(bs l).data.toList=l:=by simp [bs]
theorem bs_size (l:List UInt8):(bs l).size=l.length:=by simp [bs,ByteArray.size]
theorem bs_self (s:ByteArray):bs s.data.toList=s:=by cases s;simp [bs]
end Go.Proofs.YtbfbgappinilmaaGreatDoor
namespace Go.Proofs.YtbfbgappinilmaaGreatDoor
open Go.RowKit
set_option linter.unusedVariables false
set_option linter.unusedSimpArgs false
def lowest (P Q:Nat):Int×Int×Int :=
 if P/Nat.gcd P Q<=1000000000000000/\Q/Nat.gcd P Q<=1000000000000000 then (((P/Nat.gcd P Q:Nat):Int),((Q/Nat.gcd P Q:Nat):Int),0) else (0,0,1)
end Go.Proofs.YtbfbgappinilmaaGreatDoor
