/- Formats of flat files, plain: columns, kinds, what is wrong with them. -/
import Derived.Test.YtaiabjiehpcaoaaGreatDoorU1
import Derived.Lib.SplitLaws
import Derived.Lib.IndexBytes
import Derived.Lib.Hide
import Derived.Test.YtaiabjiehpcaoaaGreatDoorProg
import Derived.Lib.Atoi
-- merged: F0 Q0 D2 E0 K1 M0 F6 U2
namespace Go.Proofs.YtaiabjiehpcaoaaGreatDoor
open Nmb
set_option linter.unusedVariables false
structure Col where
 name:ByteArray
 kind:Int
 width:Int
 places:Int
 form:Int
 right:Bool
 fill:Int
 need:Bool
 deriving DecidableEq
structure RKd where
 tag:ByteArray
 fields:List Col
 most:Int
 under:ByteArray
 deriving DecidableEq
structure Fmt where
 mark:Int
 quote:Int
 kinds:List RKd
 head:ByteArray
 tail:ByteArray
 count:ByteArray
 sum:ByteArray
 deriving DecidableEq
def col0:Col:=⟨⟨#[]⟩,0,0,0,0,false,0,false⟩
def kind0:RKd:=⟨⟨#[]⟩,[],0,⟨#[]⟩⟩
def cA (cs:List Col) (j:Nat):Col:=cs.getD j col0
def kA (ks:List RKd) (j:Nat):RKd:=ks.getD j kind0
theorem Qbr {cs:List Col} {j:Nat} (h:j<cs.length):cs[j]=cA cs j:=by simp [cA,List.getD_eq_getElem?_getD,h]
theorem kA_get {ks:List RKd} {j:Nat} (h:j<ks.length):ks[j]=kA ks j:=by simp [kA,List.getD_eq_getElem?_getD,h]
def ixF {α:Type} (q:α->Bool):List α->Int
 | []=>-1
 | x :: l=>if q x=true then 0 else if ixF q l<0 then -1 else ixF q l+1
theorem ixF_lo {α:Type} (q:α->Bool):∀ l:List α,-1<=ixF q l
 | []=>by unfold ixF;omega
 | x :: l=>by
  have:=ixF_lo q l
  unfold ixF
  split
  ·omega
  ·split<;>omega
theorem ixF_hit {α:Type} {q:α->Bool} : ∀ {l:List α} {k:Nat} (hk:k<l.length),q l[k]=true->(∀ j (hj:j<l.length),j<k->q l[j]=false)->ixF q l=k
 | x :: l,0,_,h,_=>by
  unfold ixF
  rw [if_pos (by simpa using h)]
  rfl
 | x :: l,k+1,hk,h,hn=>by
  have h0:=hn 0 (by simp) (by omega)
  have ih:=ixF_hit (l:=l) (k:=k) (by simpa using hk) h (fun j hj hjk=>hn (j+1) (by simpa using hj) (by omega))
  unfold ixF
  rw [if_neg (by simp only [List.getElem_cons_zero] at h0;rw [h0];decide),ih,if_neg (by omega)]
  omega
theorem ixF_no {α:Type} {q:α->Bool} : ∀ {l:List α},(∀ j (hj:j<l.length),q l[j]=false)->ixF q l=-1
 | [],_=>rfl
 | x :: l,h=>by
  have h0:=h 0 (by simp)
  have ih:=ixF_no (l:=l) (fun j hj=>h (j+1) (by simpa using hj))
  unfold ixF
  rw [if_neg (by simp only [List.getElem_cons_zero] at h0;rw [h0];decide),ih,if_pos (by omega)]
theorem QaT {α:Type} (q:α->Bool):∀ l:List α,(ixF q l=-1/\∀ j (hj:j<l.length),q l[j]=false)∨∃ k,∃ hk:k<l.length,ixF q l=(k:Int)/\q l[k]=true/\∀ j (hj:j<l.length),j<k->q l[j]=false
 | []=>.inl ⟨rfl,fun j hj=>by simp at hj⟩
 | x :: l=>by
  cases hx:q x with
  | true=>exact .inr ⟨0,by simp,ixF_hit (by simp) hx (fun j _ h=>absurd h (Nat.not_lt_zero _)),hx,fun j _ h=>absurd h (Nat.not_lt_zero _)⟩
  | false=>
   rcases QaT q l with ⟨h1,h2⟩|⟨k,hk,h1,h2,h3⟩
   ·have hn:∀ j (hj:j<(x :: l).length),q (x :: l)[j]=false:=fun j hj=>by
     cases j with
     | zero=>exact hx
     | succ j=>exact h2 j (by simpa using hj)
    exact .inl ⟨ixF_no hn,hn⟩
   ·have hn:∀ j (hj:j<(x :: l).length),j<k+1->q (x :: l)[j]=false:=fun j hj hjk=>by
     cases j with
     | zero=>exact hx
     | succ j=>exact h3 j (by simpa using hj) (by omega)
    exact .inr ⟨k+1,by simpa using hk,ixF_hit (by simpa using hk) h2 hn,h2,hn⟩
theorem ixF_any {α:Type} (q:α->Bool) (l:List α):decide (0<=ixF q l)=l.any q:=by
 rcases QaT q l with ⟨h1,h2⟩|⟨k,hk,h1,h2,_⟩
 ·rw [h1,show l.any q=false from by
   rw [Bool.eq_false_iff]
   intro h
   obtain ⟨x,hx,h3⟩:=List.any_eq_true.1 h
   obtain ⟨j,hj,rfl⟩:=List.getElem_of_mem hx
   rw [h2 j hj] at h3
   cases h3]
  rfl
 ·rw [h1,show l.any q=true from List.any_eq_true.2 ⟨l[k],List.getElem_mem hk,h2⟩]
  exact decide_eq_true (by omega)
theorem ixF_take {α:Type} {q:α->Bool} {l:List α} {k:Nat} (hk:k<l.length) (h:q l[k]=true):(ixF q l=k)↔(l.take k).any q=false:=by
 constructor
 ·intro e
  rw [Bool.eq_false_iff]
  intro h2
  obtain ⟨x,hx,h3⟩:=List.any_eq_true.1 h2
  obtain ⟨j,hj,rfl⟩:=List.getElem_of_mem hx
  rw [List.length_take] at hj
  rw [List.getElem_take] at h3
  rcases QaT q l with ⟨h4,h5⟩|⟨k',hk',h4,h5,h6⟩
  ·rw [h5 k hk] at h;cases h
  ·have:k'=k:=by omega
   subst this
   rw [h6 j (by omega) (by omega)] at h3
   cases h3
 ·intro e
  refine ixF_hit hk h (fun j hj hjk=>?_)
  rw [Bool.eq_false_iff]
  intro h3
  have:(l.take k).any q=true:=List.any_eq_true.2 ⟨l[j],by rw [List.mem_iff_getElem];exact ⟨j,by rw [List.length_take];omega,by rw [List.getElem_take]⟩,h3⟩
  rw [this] at e
  cases e
def QaR (b:Int):Bool:=decide (b<32)||decide (126<b)||tagC b||decide (97<=b/\b<=122)||decide (b=45)||decide (b=46)
def formW (form:Int):Int:=if form=1∨form=3 then 8 else if form=4 then 10 else if form=5 then 7 else 0
def QaA (mark:Int) (c:Col):Bool :=
 (decide (c.kind=2)||decide (c.places=0))&&(decide (c.kind=3)||decide (c.form=0))&&(!decide (c.kind=3)&&decide (mark=0)||!c.right&&decide (c.fill=0))
def Qav (t:ByteArray) (k:RKd):Bool:=decide (k.tag=t)
def Qaj (t:ByteArray) (c:Col):Bool:=decide (c.name=t)
def colF (mark:Int) (c:Col) (before:List Col):Int :=
 if Qbt c.name.data.toList=false then 5
 else if before.any (Qaj c.name)=true then 7
 else if ¬ (1<=c.kind/\c.kind<=3) then 4
 else if ¬ (1<=c.width/\c.width<=100) then 1
 else if c.kind=2/\¬ (0<=c.places/\c.places<=9) then 1
 else if c.kind=3/\formW c.form=0 then 4
 else if QaA mark c=false then 3
 else if mark≠0 then 0
 else if c.kind≠3/\c.fill≠32/\¬ (c.kind=2/\c.fill=48/\c.right=true) then 3
 else if c.kind=3/\c.width≠formW c.form then 12
 else 0
def fstF (f:Nat->Int):Nat->Int
 | 0=>0
 | n+1=>if fstF f n=0 then f n else fstF f n
theorem fstF_no {f:Nat->Int} : ∀ {n:Nat},(∀ j,j<n->f j=0)->fstF f n=0
 | 0,_=>rfl
 | n+1,h=>by
  unfold fstF
  rw [fstF_no (fun j hj=>h j (by omega)),if_pos rfl,h n (by omega)]
theorem fstF_hit {f:Nat->Int} : ∀ {n k:Nat},k<n->(∀ j,j<k->f j=0)->f k≠0->fstF f n=f k
 | n+1,k,hk,h0,h1=>by
  unfold fstF
  rcases Nat.lt_or_ge k n with h | h
  ·rw [fstF_hit h h0 h1,if_neg h1]
  ·obtain rfl:k=n:=by omega
   rw [fstF_no h0,if_pos rfl]
theorem fstF_zero {f:Nat->Int} : ∀ {n:Nat},fstF f n=0->∀ j,j<n->f j=0
 | 0,_,j,hj=>absurd hj (Nat.not_lt_zero _)
 | n+1,h,j,hj=>by
  unfold fstF at h
  split at h
  ·rename_i h2
   rcases Nat.lt_or_ge j n with h3 | h3
   ·exact fstF_zero h2 j h3
   ·obtain rfl:j=n:=by omega
    exact h
  ·rename_i h2;exact absurd h h2
def colsF (mark:Int) (cs:List Col):Int:=fstF (fun i=>colF mark (cA cs i) (cs.take i)) cs.length
def Qax (mark:Int) (ks:List RKd) (i:Nat):Int :=
 if ¬ (1<=(kA ks i).tag.size/\(kA ks i).tag.size<=6)∨tagL (kA ks i).tag.data.toList=false then 3
 else if (ks.take i).any (Qav (kA ks i).tag)=true then 7
 else if mark=0/\(kA ks i).tag.size≠(kA ks 0).tag.size then 3
 else if 50<(kA ks i).fields.length then 2
 else if colsF mark (kA ks i).fields≠0 then colsF mark (kA ks i).fields
 else if ¬ (0<=(kA ks i).most/\(kA ks i).most<=2000) then 1
 else if (kA ks i).under≠⟨#[]⟩/\(ks.take i).any (Qav (kA ks i).under)=false then 5
 else 0
def kndF (ks:List RKd) (t:ByteArray):RKd:=if ixF (Qav t) ks<0 then kind0 else kA ks (ixF (Qav t) ks).toNat
def colN (k:RKd) (name:ByteArray):Col:=cA k.fields (ixF (Qaj name) k.fields).toNat
def Qbs (ks:List RKd) (tail name:ByteArray) (places:Bool):Bool :=
 decide (ixF (Qaj name) (kndF ks tail).fields<0)||(decide ((colN (kndF ks tail) name).kind≠2)||!places&&decide ((colN (kndF ks tail) name).places≠0))
def Qbj (f:Fmt):Int :=
 if f.head≠⟨#[]⟩/\ixF (Qav f.head) f.kinds<0 then 5
 else if f.tail≠⟨#[]⟩/\ixF (Qav f.tail) f.kinds<0 then 5
 else if f.head=f.tail/\f.head≠⟨#[]⟩ then 12
 else if f.tail=⟨#[]⟩/\(f.count≠⟨#[]⟩∨f.sum≠⟨#[]⟩) then 3
 else if f.count≠⟨#[]⟩/\Qbs f.kinds f.tail f.count false=true then 5
 else if f.sum≠⟨#[]⟩/\Qbs f.kinds f.tail f.sum true=true then 5
 else if f.count=f.sum/\f.count≠⟨#[]⟩ then 12
 else 0
def QaE (mark quote:Int):Int :=
 if mark≠0/\(QaR mark=true∨quote≠0/\QaR quote=true∨mark=quote) then 12
 else if mark=0/\quote≠0 then 3
 else 0
def Qao (f:Fmt):Int :=
 if QaE f.mark f.quote≠0 then QaE f.mark f.quote
 else if f.kinds.length=0 then 9
 else if 30<f.kinds.length then 2
 else if fstF (Qax f.mark f.kinds) f.kinds.length≠0 then fstF (Qax f.mark f.kinds) f.kinds.length
 else Qbj f
end Go.Proofs.YtaiabjiehpcaoaaGreatDoor
namespace Go.Proofs.YtaiabjiehpcaoaaGreatDoor
set_option linter.unusedVariables false
set_option linter.unusedSimpArgs false
def qHd (x:UInt8):List (List UInt8)->List (List UInt8)
 | []=>[[x]]
 | p :: ps=>(x :: p) :: ps
def pcs (g:UInt8):List UInt8->List (List UInt8)
 | []=>[[]]
 | x :: l=>if x=g then [] :: pcs g l else qHd x (pcs g l)
theorem pcs_ne (g:UInt8):∀ l,pcs g l≠[]
 | []=>by simp [pcs]
 | x :: l=>by
  unfold pcs
  split
  ·simp
  ·cases pcs g l<;>simp [qHd]
theorem pcs_none {g:UInt8} : ∀ {l},g∉l->pcs g l=[l]
 | [],_=>rfl
 | x :: l,h=>by
  have h1:x≠g:=fun e=>h (by simp [e])
  have h2:g∉l:=fun e=>h (by simp [e])
  unfold pcs
  rw [if_neg h1,pcs_none h2]
  rfl
theorem pcs_hit {g:UInt8} : ∀ {a b},g∉a->pcs g (a++g :: b)=a :: pcs g b
 | [],b,_=>by show (if g=g then _ else _)=_;rw [if_pos rfl]
 | x :: a,b,h=>by
  have h1:x≠g:=fun e=>h (by simp [e])
  have h2:g∉a:=fun e=>h (by simp [e])
  have ih:=pcs_hit (b:=b) h2
  rw [List.cons_append,pcs,if_neg h1,ih]
  rfl
theorem pcs_len (g:UInt8):∀ l,(pcs g l).length=l.count g+1
 | []=>rfl
 | x :: l=>by
  have ih:=pcs_len g l
  unfold pcs
  split
  next h=>subst h;rw [List.length_cons,ih,List.count_cons_self]
  next h=>
   rw [List.count_cons_of_ne h,<- ih]
   rcases hp:pcs g l with _ | ⟨q,qs⟩
   ·exact absurd hp (pcs_ne g l)
   ·rfl
theorem pcs_sum (g:UInt8):∀ l,∀ p∈pcs g l,p.length<=l.length
 | [],p,h=>by simp [pcs] at h;subst h;simp
 | x :: l,p,h=>by
  have ih:=pcs_sum g l
  unfold pcs at h
  split at h
  next hx=>
   rcases List.mem_cons.1 h with h | h
   ·subst h;simp
   ·have:=ih p h;simp;omega
  next hx=>
   rcases hp:pcs g l with _ | ⟨q,qs⟩
   ·exact absurd hp (pcs_ne g l)
   ·rw [hp] at h ih
    rcases List.mem_cons.1 h with h | h
    ·subst h
     have:=ih q (by simp)
     simp;omega
    ·have:=ih p (by simp [h]);simp;omega
theorem idx_cases (g:UInt8):∀ l,(Lib.indexByte l g=-1/\g∉l)∨∃ i:Nat,Lib.indexByte l g=i/\i<l.length/\l=l.take i++g :: l.drop (i+1)/\g∉l.take i
 | []=>.inl ⟨rfl,by simp⟩
 | x :: l=>by
  unfold Lib.indexByte
  by_cases hx:x=g
  ·subst hx
   right
   exact ⟨0,by simp,by simp,by simp,by simp⟩
  ·rw [if_neg (by simpa using hx)]
   rcases idx_cases g l with ⟨h1,h2⟩|⟨i,h1,h2,h3,h4⟩
   ·left
    rw [h1]
    exact ⟨by simp,by simp only [List.mem_cons,not_or];exact ⟨fun e=>hx e.symm,h2⟩⟩
   ·right
    rw [h1]
    refine ⟨i+1,by rw [if_neg (by simp)];rfl,by simp only [List.length_cons];omega,?_,?_⟩
    ·rw [List.take_succ_cons,List.drop_succ_cons,List.cons_append,<- h3]
    ·rw [List.take_succ_cons]
     simp only [List.mem_cons,not_or]
     exact ⟨fun e=>hx e.symm,h4⟩
theorem splitK_pcs (g:UInt8):∀ (k:Nat) (l:List UInt8),l.count g=k->Lib.splitK [g] 0 k l=pcs g l
 | 0,l,h=>by
  have:g∉l:=fun e=>by have:=List.count_pos_iff.2 e;omega
  rw [pcs_none this];rfl
 | k+1,l,h=>by
  have hm:g∈l:=List.count_pos_iff.1 (by omega)
  rcases idx_cases g l with ⟨h1,h2⟩|⟨i,h1,h2,h3,h4⟩
  ·exact absurd hm h2
  ·unfold Lib.splitK
   rw [Lib.index_one,h1,if_neg (by simp),Int.toNat_natCast,Nat.add_zero,List.length_singleton]
   have hc:(l.drop (i+1)).count g=k:=by
    have h5:=congrArg (List.count g) h3
    rw [List.count_append,List.count_cons_self,List.count_eq_zero.2 h4] at h5
    omega
   rw [splitK_pcs g k _ hc]
   conv=>rhs;rw [h3]
   rw [pcs_hit h4]
theorem split_pcs (s sep:ByteArray) (g:UInt8) (h:sep.data.toList=[g]):(Lib.splitB sep 0 (Lib.countB s sep) s).map (fun x=>x.data.toList)=pcs g s.data.toList:=by
 have e:Lib.countB s sep=s.data.toList.count g:=by unfold Lib.countB;rw [h,Lib.count_one]
 rw [Lib.splitB_data,h,e]
 exact splitK_pcs g _ _ rfl
end Go.Proofs.YtaiabjiehpcaoaaGreatDoor
namespace Go.Proofs.YtaiabjiehpcaoaaGreatDoor.Work
def leapB (y:Int):Bool:=decide (y%4=0/\(y%100≠0∨y%400=0))
theorem leapB_yes {y:Int} (h:leapB y=true):y%4=0/\(y%100≠0∨y%400=0):=by simpa [leapB] using h
theorem leapB_no {y:Int} (h:leapB y=false):¬ (y%4=0/\(y%100≠0∨y%400=0)):=of_decide_eq_false h
def dim (y m:Int):Int:=if m=2 then (if leapB y=true then 29 else 28) else if m=4∨m=6∨m=9∨m=11 then 30 else 31
theorem dim_bd (y m:Int):28<=dim y m/\dim y m<=31:=by unfold dim;split<;>split<;>omega
def bef (y:Int):Int:=365*(y-1)+(y-1)/4-(y-1)/100+(y-1)/400
def cum (y:Int):Nat->Int
 | 0=>0
 | k+1=>cum y k+dim y ((k:Int)+1)
theorem cum_12 (y:Int):cum y 12=365+if leapB y=true then 1 else 0:=by
 simp only [cum,dim]
 simp
 split<;>omega
theorem bef_succ (y:Int):bef (y+1)=bef y+cum y 12:=by
 rw [cum_12]
 unfold bef
 by_cases h:leapB y=true
 ·rw [if_pos h]
  have:=leapB_yes h
  omega
 ·rw [if_neg h]
  have:=leapB_no (by simpa using h)
  omega
theorem cum_12_bd (y:Int):365<=cum y 12/\cum y 12<=366:=by rw [cum_12];split<;>omega
theorem cum_lt (y:Int) {i j:Nat} (h:i<j):cum y i+28<=cum y j:=by
 obtain ⟨k,rfl⟩:∃ k,j=i+k+1:=⟨j-i-1,by omega⟩
 clear h
 induction k with
 | zero=>rw [Nat.add_zero,cum];have:=dim_bd y ((i:Int)+1);omega
 | succ k ih=>
  rw [show i+(k+1)+1=i+k+1+1 by omega,cum]
  have:=dim_bd y (((i+k+1:Nat):Int)+1)
  omega
theorem cum_le (y:Int) {i j:Nat} (h:i<=j):cum y i<=cum y j:=by
 rcases Nat.eq_or_lt_of_le h with e | e
 ·rw [e];exact Int.le_refl _
 ·have:=cum_lt y e;omega
theorem bef_mono {a b:Int} (h:a<=b):bef a<=bef b:=by unfold bef;omega
theorem bef_guess {day:Int} (h:1<=day):bef (day/366+1)<day:=by unfold bef;omega
theorem bef_end:bef 10000=3652059:=by decide
theorem bef_bd {y:Int} (h:1<=y) (h2:y<=10000):0<=bef y/\bef y<=3652059:=by unfold bef;omega
def num (y m d:Int):Int:=bef y+cum y (m-1).toNat+d
def Qa7 (y m d:Int):Bool:=decide ((1<=y/\y<=9999)/\(1<=m/\m<=12)/\(1<=d/\d<=dim y m))
theorem dateB_yes {y m d:Int} (h:Qa7 y m d=true):(1<=y/\y<=9999)/\(1<=m/\m<=12)/\(1<=d/\d<=dim y m):=of_decide_eq_true h
theorem dateB_mk {y m d:Int} (h:(1<=y/\y<=9999)/\(1<=m/\m<=12)/\(1<=d/\d<=dim y m)):Qa7 y m d=true:=decide_eq_true h
theorem QbK {y m d:Int} (h:¬ ((1<=y/\y<=9999)/\(1<=m/\m<=12)/\(1<=d/\d<=dim y m))):Qa7 y m d=false:=decide_eq_false h
theorem num_year {y m d:Int} (h:Qa7 y m d=true):bef y<num y m d/\num y m d<=bef (y+1):=by
 obtain ⟨h1,h2,h3⟩:=dateB_yes h
 obtain ⟨k,rfl⟩:∃ k:Nat,m=(k:Int)+1:=⟨(m-1).toNat,by omega⟩
 have e:((k:Int)+1-1).toNat=k:=by omega
 unfold num
 rw [e,bef_succ]
 have a:=cum_le y (i:=0) (j:=k) (by omega)
 have b:=cum_le y (i:=k+1) (j:=12) (by omega)
 rw [cum] at a
 rw [cum] at b
 omega
theorem num_day {y m d:Int} (h:Qa7 y m d=true):1<=num y m d/\num y m d<=3652059:=by
 have h1:=num_year h
 have h2:=dateB_yes h
 have a:=bef_bd (y:=y) (by omega) (by omega)
 have b:=bef_bd (y:=y+1) (by omega) (by omega)
 omega
def DateIs (day y m d:Int):Prop:=Qa7 y m d=true/\num y m d=day
theorem year_unique {a b day:Int} (h1:bef a<day) (h2:day<=bef (a+1)) (h3:bef b<day) (h4:day<=bef (b+1)):a=b:=by
 rcases Int.lt_trichotomy a b with h | h | h
 ·have:=bef_mono (a:=a+1) (b:=b) (by omega);omega
 ·exact h
 ·have:=bef_mono (a:=b+1) (b:=a) (by omega);omega
end Go.Proofs.YtaiabjiehpcaoaaGreatDoor.Work
namespace Go.Proofs.YtaiabjiehpcaoaaGreatDoor.Work
theorem year_ex {day:Int} (h2:day<=3652059):∀ (n:Nat) (y:Int),y+n=9999->bef y<day->∃ z,y<=z/\z<=9999/\bef z<day/\day<=bef (z+1)
 | 0,y,hn,hb=>⟨y,by omega,by omega,hb,by rw [show y+1=10000 by omega,bef_end];exact h2⟩
 | n+1,y,hn,hb=>by
  by_cases h:day<=bef (y+1)
  ·exact ⟨y,by omega,by omega,hb,h⟩
  ·obtain ⟨z,h3,h4,h5,h6⟩:=year_ex h2 n (y+1) (by omega) (by omega)
   exact ⟨z,by omega,h4,h5,h6⟩
theorem month_ex {y r:Int} (hr:r<=cum y 12):∀ (n k:Nat),k+n=11->cum y k<r->∃ j:Nat,k<=j/\j<=11/\cum y j<r/\r<=cum y (j+1)
 | 0,k,hn,hb=>⟨k,by omega,by omega,hb,by rw [show k+1=12 by omega];exact hr⟩
 | n+1,k,hn,hb=>by
  by_cases h:r<=cum y (k+1)
  ·exact ⟨k,by omega,by omega,hb,h⟩
  ·obtain ⟨z,h3,h4,h5,h6⟩:=month_ex hr n (k+1) (by omega) (by omega)
   exact ⟨z,by omega,h4,h5,h6⟩
theorem date_ex {day:Int} (h:1<=day) (h2:day<=3652059):∃ y m d,DateIs day y m d:=by
 obtain ⟨y, y1, y2, y3, y4⟩ := year_ex h2 9998 1 (by omega) (by have : bef 1 = 0 := by decide
                                                                omega)
 rw [bef_succ] at y4
 obtain ⟨k,-,k2,k3,k4⟩:=month_ex (y:=y) (r:=day-bef y) (by omega) 11 0 (by omega) (by rw [cum];omega)
 rw [cum] at k4
 refine ⟨y,(k:Int)+1,day-bef y-cum y k,dateB_mk ⟨by omega,by omega,by omega,by omega⟩,?_⟩
 unfold num
 rw [show ((k:Int)+1-1).toNat=k by omega]
 omega
theorem DateIs.facts {day y m d:Int} (h:DateIs day y m d):(1<=y/\y<=9999)/\(1<=m/\m<=12)/\(1<=d/\d<=31)/\d<=dim y m/\bef y<day/\day<=bef (y+1):=by
 obtain ⟨h1,h2⟩:=h
 have a:=num_year h1
 have b:=dateB_yes h1
 have c:=dim_bd y m
 rw [h2] at a
 exact ⟨b.1,b.2.1,by omega,by omega,a.1,a.2⟩
def thu (day:Int):Int:=day-(day-1)%7+3
theorem thu_bd {day:Int} (h:1<=day) (h2:day<=3652059):1<=thu day/\thu day<=3652059:=by unfold thu;omega
theorem thu_ex {day:Int} (h:1<=day) (h2:day<=3652059):∃ y m d,DateIs (thu day) y m d:=by
 have:=thu_bd h h2
 exact date_ex this.1 this.2
def wk (day y:Int):Int:=(thu day-bef y-1)/7+1
theorem wk_bd {day y:Int} (h:bef y<thu day) (h2:thu day<=bef (y+1)):1<=wk day y/\wk day y<=53:=by
 have a:=bef_succ y
 have b:=cum_12_bd y
 unfold wk
 omega
end Go.Proofs.YtaiabjiehpcaoaaGreatDoor.Work
namespace Go.Proofs.YtaiabjiehpcaoaaGreatDoor.Nmb
set_option linter.unusedVariables false
end Go.Proofs.YtaiabjiehpcaoaaGreatDoor.Nmb
namespace Go.Proofs.YtaiabjiehpcaoaaGreatDoor.Work
open Nmb
set_option linter.unusedVariables false
def dvF:List UInt8->Nat->Nat
 | [],a=>a
 | c :: l,a=>dvF l (10*a+(c.toNat-48))
theorem dvF_cons (c:UInt8) (l:List UInt8) (a:Nat):dvF (c :: l) a=dvF l (10*a+(c.toNat-48)):=rfl
def dv (l:List UInt8):Nat:=dvF l 0
theorem dvF_append (l m:List UInt8):∀ a,dvF (l++m) a=dvF m (dvF l a):=by
 induction l with
 | nil=>intro a;rfl
 | cons c l ih=>intro a;exact ih _
theorem dv_take {l:List UInt8} {k:Nat} (h:k<l.length):dv (l.take (k+1))=10*dv (l.take k)+(l[k].toNat-48):=by
 unfold dv
 rw [List.take_succ_eq_append_getElem h,dvF_append];rfl
theorem digs_mem {l:List UInt8} (h:digs l=true):∀ c∈l,48<=c.toNat/\c.toNat<=57:=by
 intro c hc
 obtain ⟨i,hi,rfl⟩:=List.getElem_of_mem hc
 have:=(digs_yes h).2 i hi
 unfold dgt at this
 rw [byA_get hi] at this
 omega
theorem dvF_lt:∀ (l:List UInt8) (a:Nat),(∀ c∈l,48<=c.toNat/\c.toNat<=57)->dvF l a<(a+1)*10 ^ l.length
 | [],a,_=>by show a<(a+1)*1;omega
 | c :: l,a,h=>by
  have h1:=h c (by simp)
  have:=dvF_lt l (10*a+(c.toNat-48)) (fun d hd=>h d (by simp [hd]))
  rw [dvF_cons,List.length_cons,Nat.pow_succ]
  have h2:(10*a+(c.toNat-48)+1)*10 ^ l.length<=(10*(a+1))*10 ^ l.length:=Nat.mul_le_mul_right _ (by omega)
  have h3:(10*(a+1))*10 ^ l.length=(a+1)*(10 ^ l.length*10):=by rw [Nat.mul_comm 10 (a+1),Nat.mul_assoc,Nat.mul_comm 10]
  omega
theorem dv_lt {l:List UInt8} (h:digs l=true):dv l<10 ^ l.length:=by
 have:=dvF_lt l 0 (digs_mem h)
 unfold dv
 omega
theorem dv_lt4 {l:List UInt8} (h:digs l=true) (hl:l.length<=4):dv l<10000:=by
 have:=dv_lt h
 have h2:10 ^ l.length<=10 ^ 4:=Nat.pow_le_pow_right (by decide) hl
 omega
theorem dec_dv:∀ (l:List UInt8) (a:Nat),(∀ c∈l,48<=c.toNat/\c.toNat<=57)->Lib.decFrom a l=some (dvF l a)
 | [],a,_=>rfl
 | c :: l,a,h=>by
  have h1:=h c (by simp)
  have e:Lib.digitVal c=some (c.toNat-48):=by unfold Lib.digitVal;rw [if_pos h1]
  rw [Lib.decFrom,e]
  show Lib.decFrom (a*10+(c.toNat-48)) l=some (dvF l (10*a+(c.toNat-48)))
  rw [Nat.mul_comm a 10]
  exact dec_dv l _ (fun d hd=>h d (by simp [hd]))
theorem atoi_dv {l:List UInt8} (h:digs l=true):Lib.atoi l=some ((dv l:Nat):Int):=by
 have hm:=digs_mem h
 have h0:=(digs_yes h).1
 match l,hm,h0 with
 | c :: l,hm,_=>
  have h1:=hm c (by simp)
  have n45:(c==45)=false:=by
   rw [beq_eq_false_iff_ne];intro e;subst e;revert h1;decide
  have n43:(c==43)=false:=by
   rw [beq_eq_false_iff_ne];intro e;subst e;revert h1;decide
  rw [Lib.atoi,n45,n43]
  show (Lib.decNat (c :: l)).map _=_
  unfold Lib.decNat
  rw [if_neg (by simp),dec_dv (c :: l) 0 hm]
  rfl
def numF (l:List UInt8):Int:=if digs l=true then (dv l:Int) else -1
theorem numF_yes {l:List UInt8} (h:digs l=true):numF l=(dv l:Int):=if_pos h
theorem numF_no {l:List UInt8} (h:digs l=false):numF l=-1:=if_neg (by rw [h];simp)
def prt:List Nat->List UInt8->Option (List Int)
 | [],l=>if l.isEmpty=true then some [] else none
 | n :: ws,l=>if n<=l.length/\digs (l.take n)=true then (prt ws (l.drop n)).map (fun r=>((dv (l.take n):Nat):Int) :: r) else none
theorem prt_short {n:Nat} {ws:List Nat} {l:List UInt8} (h:l.length<n):prt (n :: ws) l=none:=by rw [prt,if_neg (by omega)]
theorem prt_bad {n:Nat} {ws:List Nat} {l:List UInt8} (h:digs (l.take n)=false):prt (n :: ws) l=none:=by rw [prt,if_neg (by rw [h];simp)]
theorem prt_next {n:Nat} {ws:List Nat} {l:List UInt8} (h:n<=l.length) (hd:digs (l.take n)=true):prt (n :: ws) l=(prt ws (l.drop n)).map (fun r=>((dv (l.take n):Nat):Int) :: r):=by rw [prt,if_pos ⟨h,hd⟩]
theorem prt3 {a b c:Nat} (hc:0<c) (l:List UInt8):prt [a,b,c] l =
  if l.length=a+b+c/\digs (l.take a)=true/\digs ((l.drop a).take b)=true/\digs (l.drop (a+b))=true then some [(dv (l.take a):Int),(dv ((l.drop a).take b):Int),(dv (l.drop (a+b)):Int)] else none:=by
 have hd:(l.drop a).drop b=l.drop (a+b):=by rw [List.drop_drop]
 have hlen:(l.drop (a+b)).length=l.length-(a+b):=by simp
 by_cases h1:a<=l.length/\digs (l.take a)=true
 case neg=>rw [prt,if_neg h1,if_neg (fun h=>h1 ⟨by omega,h.2.1⟩)]
 rw [prt_next h1.1 h1.2]
 by_cases h2:b<=(l.drop a).length/\digs ((l.drop a).take b)=true
 case neg=>
  rw [prt,if_neg h2,if_neg (fun h=>h2 ⟨by simp;omega,h.2.2.1⟩)];rfl
 rw [prt_next h2.1 h2.2,hd]
 have hb:b<=l.length-a:=by have:=h2.1;simpa using this
 by_cases h3:c<=(l.drop (a+b)).length/\digs ((l.drop (a+b)).take c)=true
 case neg=>
  rw [prt,if_neg h3,if_neg (fun h=>h3 ⟨by omega,by rw [List.take_of_length_le (by omega)];exact h.2.2.2⟩)];rfl
 rw [prt_next h3.1 h3.2,prt]
 by_cases h4:((l.drop (a+b)).drop c).isEmpty=true
 ·have h5:(l.drop (a+b)).length<=c:=by rw [List.isEmpty_iff] at h4;have:=congrArg List.length h4;simp at this;simp;omega
  rw [if_pos h4,List.take_of_length_le h5]
  rw [List.take_of_length_le h5] at h3
  rw [if_pos ⟨by have:=h3.1;omega,h1.2,h2.2,h3.2⟩];rfl
 ·rw [if_neg h4,if_neg (fun h=>h4 (by rw [List.isEmpty_iff];apply List.eq_nil_of_length_eq_zero;simp;omega))];rfl
def dayO (y m d:Int):Option Int:=if Qa7 y m d=true then some (num y m d) else none
theorem dayO_neg {y m d:Int} (h:y<1∨m<1∨d<1):dayO y m d=none:=by
 unfold dayO;rw [if_neg];intro h2;have:=dateB_yes h2;omega
def Qb3 (y w d:Int):Int:=bef y+4-(bef y+4-1)%7+(w-1)*7+d-1
def weekB (y w d:Int):Bool:=decide ((1<=y/\y<=9999)/\(1<=d/\d<=7)/\(1<=Qb3 y w d/\Qb3 y w d<=3652059)/\bef y<thu (Qb3 y w d)/\thu (Qb3 y w d)<=bef (y+1)/\wk (Qb3 y w d) y=w)
def weekO (y w d:Int):Option Int:=if weekB y w d=true then some (Qb3 y w d) else none
theorem week_day {day y w d:Int} (h1:bef y<thu day) (h2:wk day y=w) (h3:(day-1)%7+1=d):day=Qb3 y w d:=by
 subst h2 h3
 unfold Qb3 wk
 unfold thu at h1 ⊢
 omega
theorem week_in {y w d:Int} (h:weekB y w d=true):1<=w/\w<=53/\(Qb3 y w d-1)%7+1=d/\bef y+1-7<=Qb3 y w d/\Qb3 y w d<=bef y+1+380:=by
 obtain ⟨a,b,c,e,f,g⟩:=of_decide_eq_true h
 have hw:=wk_bd e f
 rw [g] at hw
 refine ⟨hw.1,hw.2,?_,?_,?_⟩
 ·unfold Qb3;omega
 ·unfold Qb3;omega
 ·unfold Qb3;omega
theorem weekB_of {day y w d:Int} (hy:1<=y/\y<=9999) (hd:1<=day/\day<=3652059) (h1:bef y<thu day) (h1':thu day<=bef (y+1)) (h2:wk day y=w) (h3:(day-1)%7+1=d):weekB y w d=true:=by
 have e:=week_day h1 h2 h3
 rw [e] at hd h1 h1' h2
 exact decide_eq_true ⟨hy,by omega,hd,h1,h1',h2⟩
theorem weekO_no {y w d:Int} (h:weekB y w d=false):weekO y w d=none:=if_neg (by rw [h];simp)
theorem weekO_yes {y w d:Int} (h:weekB y w d=true):weekO y w d=some (Qb3 y w d):=if_pos h
theorem weekB_neg {y w d:Int} (h:y<1∨w<1∨d<1∨7<d):weekB y w d=false:=by
 cases e:weekB y w d with
 | false=>rfl
 | true=>
  have a:=week_in e
  have b:=of_decide_eq_true e
  omega
def pointB (l:List UInt8):Bool:=decide (l.length=10/\byA l 4=45/\byA l 7=45)
def Qa1 (form pivot:Int) (l:List UInt8):Option Int :=
 if form=1 then (if l.length=8 then dayO (numF (l.take 4)) (numF ((l.drop 4).take 2)) (numF (l.drop 6)) else none)
 else if form=2 then (if l.length=6 then (if 0<=numF (l.take 2) then dayO (pivot+(numF (l.take 2)-pivot)%100) (numF ((l.drop 2).take 2)) (numF (l.drop 4)) else none) else none)
 else if form=3 then (if l.length=8 then dayO (numF (l.drop 4)) (numF ((l.drop 2).take 2)) (numF (l.take 2)) else none)
 else if form=4 then (if pointB l=true then dayO (numF (l.take 4)) (numF ((l.drop 5).take 2)) (numF (l.drop 8)) else none)
 else (if l.length=7 then weekO (numF (l.take 4)) (numF ((l.drop 4).take 2)) (numF (l.drop 6)) else none)
def opt3 (f:Int->Int->Int->Option Int):Option (List Int)->Option Int
 | some [x,y,z]=>f x y z
 | _=>none
theorem opt3_prt {a b c:Nat} (hc:0<c) (l:List UInt8) (f:Int->Int->Int->Option Int) (hf:∀ x y z,(x=-1∨y=-1∨z=-1)->f x y z=none) :
  opt3 f (prt [a,b,c] l)=if l.length=a+b+c then f (numF (l.take a)) (numF ((l.drop a).take b)) (numF (l.drop (a+b))) else none:=by
 rw [prt3 hc]
 by_cases hl:l.length=a+b+c
 case neg=>rw [if_neg (fun h=>hl h.1),if_neg hl];rfl
 rw [if_pos hl]
 cases h1:digs (l.take a) with
 | false=>rw [if_neg (by simp),hf _ _ _ (.inl (numF_no h1))];rfl
 | true=>
 cases h2:digs ((l.drop a).take b) with
 | false=>rw [if_neg (by simp),hf _ _ _ (.inr (.inl (numF_no h2)))];rfl
 | true=>
 cases h3:digs (l.drop (a+b)) with
 | false=>rw [if_neg (by simp),hf _ _ _ (.inr (.inr (numF_no h3)))];rfl
 | true=>rw [if_pos ⟨hl,rfl,rfl,rfl⟩,numF_yes h1,numF_yes h2,numF_yes h3];rfl
end Go.Proofs.YtaiabjiehpcaoaaGreatDoor.Work
namespace Go.Proofs.YtaiabjiehpcaoaaGreatDoor
open Nmb Work
set_option linter.unusedVariables false
set_option linter.unusedSimpArgs false
def bs (l:List UInt8):ByteArray:=⟨l.toArray⟩
def eS:ByteArray:=⟨#[]⟩
def wrdS (s:ByteArray):List ByteArray:=(pcs 32 s.data.toList).map bs
def wd (L:List ByteArray) (i:Nat):ByteArray:=L.getD i eS
def nOk (s:ByteArray):Bool:=decide (s.size<=4)&&digs s.data.toList&&!(decide (1<s.size)&&decide (byA s.data.toList 0=48))
def nVal (s:ByteArray):Int:=if nOk s=true then ((dv s.data.toList:Nat):Int) else 0
def yOk (s:ByteArray):Bool:=nOk s&&decide (nVal s<=255)
def undS (s:ByteArray):ByteArray:=if s=⟨#[45]⟩ then eS else s
def wFixed:ByteArray:=⟨#[102,105,120,101,100]⟩
def wMarked:ByteArray:=⟨#[109,97,114,107,101,100]⟩
def wKind:ByteArray:=⟨#[107,105,110,100]⟩
def wEnds:ByteArray:=⟨#[101,110,100,115]⟩
def wText:ByteArray:=⟨#[116,101,120,116]⟩
def wNumber:ByteArray:=⟨#[110,117,109,98,101,114]⟩
def wDay:ByteArray:=⟨#[100,97,121]⟩
def wLeft:ByteArray:=⟨#[108,101,102,116]⟩
def wRight:ByteArray:=⟨#[114,105,103,104,116]⟩
def wNeed:ByteArray:=⟨#[110,101,101,100]⟩
structure FSt where
 f:Fmt
 begun:Bool
 ended:Bool
def fmt0:Fmt:=⟨0,0,[],eS,eS,eS,eS⟩
def st0:FSt:=⟨fmt0,false,false⟩
def pK (kind:Int):Nat:=if kind=2∨kind=3 then 1 else 0
def sK (mark kind:Int):Nat:=if mark=0/\kind≠3 then 2 else 0
def needB (L:List ByteArray) (b:Nat):Bool:=decide (L.length=b+1)&&decide (wd L b=wNeed)
def colOk (mark kind:Int) (L:List ByteArray):Bool :=
 (decide (L.length=2+pK kind+sK mark kind)||needB L (2+pK kind+sK mark kind))&&nOk (wd L 1)&&(decide (pK kind=0)||nOk (wd L 2)) &&
  (decide (sK mark kind=0)||(decide (wd L (2+pK kind)=wLeft)||decide (wd L (2+pK kind)=wRight))&&yOk (wd L (3+pK kind)))
def colW (mark kind:Int) (L:List ByteArray):Col :=
 ⟨wd L 0,kind,nVal (wd L 1),if kind=2 then nVal (wd L 2) else 0,if kind=3 then nVal (wd L 2) else 0,
  decide (sK mark kind≠0)&&decide (wd L (2+pK kind)=wRight),if sK mark kind≠0 then nVal (wd L (3+pK kind))%256 else 0,needB L (2+pK kind+sK mark kind)⟩
def addCol:List RKd->Col->List RKd
 | [],_=>[]
 | [k],c=>[{ k with fields:=k.fields++[c] }]
 | k :: x :: r,c=>k :: addCol (x :: r) c
def kindW (s:ByteArray):Int:=if s=wText then 1 else if s=wNumber then 2 else if s=wDay then 3 else 0
def frstF (st:FSt) (h:ByteArray) (L:List ByteArray):Option FSt :=
 if h=wFixed then if L.length=0 then some { st with begun:=true } else none
 else if h=wMarked then
  if L.length=2/\yOk (wd L 0)=true/\yOk (wd L 1)=true/\nVal (wd L 0)≠0 then some ⟨{ st.f with mark:=nVal (wd L 0),quote:=nVal (wd L 1) },true,st.ended⟩ else none
 else none
def wordsF (st:FSt) (h:ByteArray) (L:List ByteArray):Option FSt :=
 if st.begun=false then frstF st h L
 else if h=wKind then
  if L.length=3/\nOk (wd L 1)=true then some { st with f:={ st.f with kinds:=st.f.kinds++[⟨wd L 0,[],nVal (wd L 1),undS (wd L 2)⟩] } } else none
 else if h=wEnds then
  if L.length=4 then some ⟨{ st.f with head:=undS (wd L 0),tail:=undS (wd L 1),count:=undS (wd L 2),sum:=undS (wd L 3) },st.begun,true⟩ else none
 else if kindW h≠0/\st.f.kinds≠[]/\colOk st.f.mark (kindW h) L=true then some { st with f:={ st.f with kinds:=addCol st.f.kinds (colW st.f.mark (kindW h) L) } }
 else none
def lineF (st:FSt) (s:ByteArray):Option FSt :=
 if (wrdS s).any (fun w=>decide (w=eS))=true∨st.ended=true then none else wordsF st (wd (wrdS s) 0) (wrdS s).tail
def lnsE (t:List UInt8):Bool:=decide (t=[])||decide (t.getLast?=some 10)
def lnsL (t:List UInt8):List (List UInt8):=if t=[] then [] else if t.getLast?=some 10 then pcs 10 t.dropLast else pcs 10 t
def linesF (e:Bool):FSt->Int->List (List UInt8)->FSt ⊕ Int
 | st,_,[]=>.inl st
 | st,i,s :: r=>match lineF st (bs s) with
  | none=>.inr (i+1)
  | some st'=>if e=false/\r=[] then .inr (i+1) else linesF e st' (i+1) r
def readF (t:ByteArray):Fmt×Int×Int :=
 if 500000<t.size then (fmt0,0,2)
 else match linesF (lnsE t.data.toList) st0 0 (lnsL t.data.toList) with
  | .inr n=>(fmt0,n,10)
  | .inl st=>if st.ended=false then (fmt0,(lnsL t.data.toList).length+1,10) else if Qao st.f≠0 then (fmt0,0,Qao st.f) else (st.f,0,0)
theorem wrd_len (s:ByteArray):0<(wrdS s).length:=by
 unfold wrdS
 rw [List.length_map]
 exact List.length_pos_iff.2 (pcs_ne _ _)
theorem wd_sz {L:List ByteArray} {B:Nat} (h:∀ s∈L,s.size<=B) (i:Nat):(wd L i).size<=B:=by
 unfold wd
 rw [List.getD_eq_getElem?_getD]
 cases e:L[i]? with
 | none=>show (0:Nat)<=B;omega
 | some x=>exact h x (List.mem_of_getElem? e)
theorem bs_toList (l:List UInt8):(bs l).data.toList=l:=by simp [bs]
theorem bs_size (l:List UInt8):(bs l).size=l.length:=by simp [bs,ByteArray.size]
theorem bs_self (s:ByteArray):bs s.data.toList=s:=by cases s;simp [bs]
theorem wrd_sz (s:ByteArray):∀ w∈wrdS s,w.size<=s.size:=by
 intro w hw
 unfold wrdS at hw
 obtain ⟨l,hl,rfl⟩:=List.mem_map.1 hw
 have:=pcs_sum 32 _ l hl
 rw [bs_size]
 simpa using this
theorem nOk_bd {s:ByteArray} (h:nOk s=true):s.size<=4/\digs s.data.toList=true/\¬ (1<s.size/\byA s.data.toList 0=48):=by
 unfold nOk at h
 simp only [Bool.and_eq_true,Bool.not_eq_true',decide_eq_true_eq,Bool.and_eq_false_iff,decide_eq_false_iff_not] at h
 obtain ⟨⟨h1,h2⟩,h3⟩:=h
 exact ⟨h1,h2,fun k=>by rcases h3 with h3 | h3;exact h3 k.1;exact h3 k.2⟩
theorem nVal_bd (s:ByteArray):0<=nVal s/\nVal s<=9999:=by
 unfold nVal
 split
 next h=>
  obtain ⟨h1,h2,-⟩:=nOk_bd h
  have h3:=dvF_lt s.data.toList 0 (digs_mem h2)
  have h4:s.data.toList.length=s.size:=by simp
  rw [h4,Nat.zero_add,Nat.one_mul] at h3
  have h5:10 ^ s.size<=10 ^ 4:=Nat.pow_le_pow_right (by decide) h1
  have h6:dv s.data.toList=dvF s.data.toList 0:=rfl
  omega
 next=>omega
end Go.Proofs.YtaiabjiehpcaoaaGreatDoor
namespace Go.Proofs.YtaiabjiehpcaoaaGreatDoor
open Go.RowKit
set_option linter.unusedVariables false
set_option linter.unusedSimpArgs false
def lowest (P Q:Nat):Int×Int×Int :=
 if P/Nat.gcd P Q<=1000000000000000/\Q/Nat.gcd P Q<=1000000000000000 then (((P/Nat.gcd P Q:Nat):Int),((Q/Nat.gcd P Q:Nat):Int),0) else (0,0,1)
end Go.Proofs.YtaiabjiehpcaoaaGreatDoor
