/- Units in memory, and the walks of package amount: IsName, unitAt, unitFault. Rows of structs in memory; blocks of three cells. -/
import Derived.Test.YtaiabjiehpcaoaaGreatDoorU2
import Derived.Test.YtaiabjiehpcaoaaGreatDoorShelf
import Derived.Test.YtaiabjiehpcaoaaGreatDoorA7
import Derived.WalkLawsBesides
import Derived.Test.YtaiabjiehpcaoaaGreatDoorU1
import Derived.Deep.QuietTactic
import Derived.BigQuiet
import Derived.Laws.ShiftsVar
import Derived.Laws.ShiftsVarLaws
-- merged: U3 RW F1 F2 D0 D1 E1
set_option maxHeartbeats 1000000
set_option maxRecDepth 100000
namespace Go.Proofs.YtaiabjiehpcaoaaGreatDoor
open Go.RowKit Limb
set_option linter.unusedVariables false
set_option linter.unusedSimpArgs false
def nameSet:ByteArray:=⟨#[97,98,99,100,101,102,103,104,105,106,107,108,109,110,111,112,113,114,115,116,117,118,119,120,121,122,48,49,50,51,52,53,54,55,56,57,45]⟩
theorem nameSet_fin:∀ i:Fin 256,nameSet.data.toList.contains (UInt8.ofNat i.val)=nameC (UInt8.ofNat i.val):=by decide +kernel
theorem nameSet_c (c:UInt8):nameSet.data.toList.contains c=nameC c:=by
 have:=nameSet_fin ⟨c.toNat,c.toNat_lt⟩
 simp only [UInt8.ofNat_toNat] at this
 exact this
theorem dropW_nil {α:Type} (p:α->Bool):∀ l:List α,l.dropWhile p=[]↔∀ x∈l,p x=true
 | []=>by simp
 | a :: l=>by
  rw [List.dropWhile_cons]
  cases h:p a with
  | true=>simp [h,dropW_nil p l]
  | false=>simp [h]
theorem trimS_nil (l cs:List UInt8):(Lib.trimS l cs).isEmpty=l.all (cs.contains ·):=by
 have e:Lib.trimS l cs=(l.reverse.dropWhile (cs.contains ·)).reverse.dropWhile (cs.contains ·):=rfl
 rw [e]
 cases h:l.reverse.dropWhile (cs.contains ·) with
 | nil=>
  rw [dropW_nil] at h
  have:l.all (cs.contains ·)=true:=List.all_eq_true.2 fun x hx=>h x (by simpa using hx)
  rw [this];rfl
 | cons a m=>
  have h1:cs.contains a=false:=by
   have:=List.head?_dropWhile_not (cs.contains ·) l.reverse
   rw [h] at this
   simpa using this
  have h2:a∈l:=by
   have:a∈l.reverse.dropWhile (cs.contains ·):=by rw [h];simp
   have:=(List.dropWhile_sublist (cs.contains ·)).subset this
   simpa using this
  have h3:l.all (cs.contains ·)=false:=by
   rw [Bool.eq_false_iff]
   intro h4
   have:=List.all_eq_true.1 h4 a h2
   rw [h1] at this;cases this
  rw [h3]
  rw [Bool.eq_false_iff]
  intro h4
  rw [List.isEmpty_iff,dropW_nil] at h4
  have:=h4 a (by simp)
  rw [h1] at this;cases this
theorem trim_name (l:List UInt8):(Lib.trimS l nameSet.data.toList).isEmpty=l.all nameC:=by
 rw [trimS_nil]
 congr 1
 funext c
 exact nameSet_c c
theorem head_at {s:ByteArray} (h:0<s.size):s.data.toList.headD 0=s[0]:=by
 have:=head_get h
 cases hl:s.data.toList with
 | nil=>rw [hl] at this;cases this
 | cons a m=>rw [hl] at this;injection this
def RetB (b:Bool) (w:World) (e:Ending) (w':World):Prop:=e=.returned (.bool b)/\Below w.heap.size w w'
theorem isname_c (s:ByteArray) (w:World) (hs:s.size<=9223372036854775807) :
  Calls Tryz.prog 158 #[.string s] w (RetB (Qbt s.data.toList) w):=by
 have hlen:s.data.toList.length=s.size:=by simp
 by_cases h1:1<=s.size/\s.size<=40
 ·obtain ⟨h1,h2⟩:=h1
  have hh:=head_at (s:=s) (by omega)
  have en:Qbt s.data.toList=(lowB s[0]&&s.data.toList.all nameC):=by
   unfold Qbt;rw [hlen,hh,decide_eq_true ⟨h1,h2⟩,Bool.true_and]
  by_cases h3:97<=s[0].toNat/\s[0].toNat<=122
  ·have en2:Qbt s.data.toList=(Lib.trimS s.data.toList nameSet.data.toList).isEmpty:=by
    rw [en,trim_name];unfold lowB;rw [decide_eq_true h3,Bool.true_and]
   rw [en2]
   obtain ⟨h3,h4⟩:=h3
   have hcon:=Tryz.strings_Trim_laid s nameSet w hs (by decide) (ascii_of_all (by decide))
   obtain ⟨r,hr⟩:∃ r:ByteArray,(⟨(Lib.trimS s.data.toList nameSet.data.toList).toArray⟩:ByteArray)=r:=⟨_,rfl⟩
   have er:(Lib.trimS s.data.toList nameSet.data.toList).isEmpty=r.toList.isEmpty:=by rw [<- hr,Lib.toList_data]
   rw [hr] at hcon
   unfold nameSet at hcon
   rw [er]
   clear hr er en en2 hh hlen
   have h3':¬ (s[0].toNat:Int)<97:=by omega
   have h4':¬ (122:Int)<(s[0].toNat:Int):=by omega
   cases hb:r.toList.isEmpty with
   | true=>
    go_enter Tryz.func158,Tryz.ntmps158
    go_wp2_with (go_at_call 140;refine hcon.mono ?_;rintro e w1 ⟨rfl,hb1⟩)
    go_ret
    exact ⟨rfl,hb1⟩
   | false=>
    go_enter Tryz.func158,Tryz.ntmps158
    go_wp2_with (go_at_call 140;refine hcon.mono ?_;rintro e w1 ⟨rfl,hb1⟩)
    go_ret
    exact ⟨rfl,hb1⟩
  ·have en2:Qbt s.data.toList=false:=by rw [en];unfold lowB;rw [decide_eq_false h3];rfl
   rw [en2]
   clear en en2 hh hlen
   by_cases h4:s[0].toNat<97
   ·have h4':(s[0].toNat:Int)<97:=by omega
    clear h3
    go_enter Tryz.func158,Tryz.ntmps158
    go_wp2
    go_ret
    exact ⟨rfl,Below.refl _ _⟩
   ·have h4':¬ (s[0].toNat:Int)<97:=by omega
    have h5':(122:Int)<(s[0].toNat:Int):=by omega
    clear h3 h4
    go_enter Tryz.func158,Tryz.ntmps158
    go_wp2
    go_ret
    exact ⟨rfl,Below.refl _ _⟩
 ·have en:Qbt s.data.toList=false:=by unfold Qbt;rw [hlen,decide_eq_false h1];rfl
  rw [en]
  clear en hlen
  by_cases h2:s.size<1
  ·clear h1
   go_enter Tryz.func158,Tryz.ntmps158
   go_wp2
   go_ret
   exact ⟨rfl,Below.refl _ _⟩
  ·have h3:40<s.size:=by omega
   clear h1
   go_enter Tryz.func158,Tryz.ntmps158
   go_wp2
   go_ret
   exact ⟨rfl,Below.refl _ _⟩
def Rws (w:World) (A:Option Addr) (k n:Nat) (f:Nat->Nat->Value):Prop :=
 0<n->∃ b off,A=some ⟨b,off,none⟩/\b<w.heap.size/\∀ j,j<n->∀ i,i<k->w.cell? ⟨b,off+j*k+i,none⟩=some (f j i)
theorem Rws.below {w w':World} {A:Option Addr} {k n:Nat} {f:Nat->Nat->Value} (h:Rws w A k n f) (hb:Below w.heap.size w w'):Rws w' A k n f:=fun hn=>by
 obtain ⟨b,off,e,hl,hc⟩:=h hn
 exact ⟨b,off,e,Nat.lt_of_lt_of_le hl hb.size,fun j hj i hi=>(hb.cell (p:=⟨b,off+j*k+i,none⟩) hl).trans (hc j hj i hi)⟩
theorem Rws.get {w:World} {A:Option Addr} {k n:Nat} {f:Nat->Nat->Value} (h:Rws w A k n f) {j:Nat} (hj:j<n):∃ b off,A=some ⟨b,off,none⟩/\b<w.heap.size/\∀ i,i<k->w.cell? ⟨b,off+j*k+i,none⟩=some (f j i):=by
 obtain ⟨b,off,e,hl,hc⟩:=h (by omega)
 exact ⟨b,off,e,hl,hc j hj⟩
end Go.Proofs.YtaiabjiehpcaoaaGreatDoor
namespace Go.Proofs.YtaiabjiehpcaoaaGreatDoor
open Go.RowKit Limb Nmb
set_option linter.unusedVariables false
set_option linter.unusedSimpArgs false
def colV (cs:List Col) (j i:Nat):Value :=
 match i with
 | 0=>.string (cA cs j).name
 | 1=>.int .i64 (cA cs j).kind
 | 2=>.int .i64 (cA cs j).width
 | 3=>.int .i64 (cA cs j).places
 | 4=>.int .i64 (cA cs j).form
 | 5=>.bool (cA cs j).right
 | 6=>.int .u8 (cA cs j).fill
 | _=>.bool (cA cs j).need
def colG (c:Col):Value:=.agg #[.string c.name,.int .i64 c.kind,.int .i64 c.width,.int .i64 c.places,.int .i64 c.form,.bool c.right,.int .u8 c.fill,.bool c.need]
def Cols (w:World) (A:Option Addr) (cs:List Col):Prop:=((∀ c∈cs,c.name.size<=9223372036854775807)/\cs.length<=9223372036854775807)/\Rws w A 8 cs.length (colV cs)
theorem Cols.below {w w':World} {A:Option Addr} {cs:List Col} (h:Cols w A cs) (hb:Below w.heap.size w w'):Cols w' A cs:=⟨h.1,h.2.below hb⟩
def kindV (ks:List RKd) (FA:Nat->Option Addr) (FC:Nat->Nat) (j i:Nat):Value :=
 match i with
 | 0=>.string (kA ks j).tag
 | 1=>.slice (FA j) (kA ks j).fields.length (FC j)
 | 2=>.int .i64 (kA ks j).most
 | _=>.string (kA ks j).under
def QaO (k:RKd) (A:Option Addr) (C:Nat):Value:=.agg #[.string k.tag,.slice A k.fields.length C,.int .i64 k.most,.string k.under]
def Kinds (w:World) (A:Option Addr) (ks:List RKd) (FA:Nat->Option Addr) (FC:Nat->Nat):Prop :=
 ((∀ k∈ks,k.tag.size<=9223372036854775807/\k.under.size<=9223372036854775807)/\ks.length<=9223372036854775807)/\Rws w A 4 ks.length (kindV ks FA FC)/\∀ j,j<ks.length->Cols w (FA j) (kA ks j).fields/\(kA ks j).fields.length<=FC j
theorem Kinds.below {w w':World} {A:Option Addr} {ks:List RKd} {FA:Nat->Option Addr} {FC:Nat->Nat} (h:Kinds w A ks FA FC) (hb:Below w.heap.size w w'):Kinds w' A ks FA FC :=
 ⟨h.1,h.2.1.below hb,fun j hj=>⟨(h.2.2 j hj).1.below hb,(h.2.2 j hj).2⟩⟩
theorem ixc_c (N:Nat) (cap:Value) (q:Col->Bool) (A:Option Addr) (c:Nat) (cs:List Col) (w:World) (ho:Cols w A cs) (hr:∀ args w,(Sem.run Tryz.prog (callFunc N args) w)=.ok (.enter N args) w)
  (hq:∀ j,j<cs.length->∀ wr,Below w.heap.size w wr->Calls Tryz.prog N #[colG (cA cs j),cap] wr fun e w'=>e=.returned (.bool (q (cA cs j)))/\Below wr.heap.size wr w') :
  Calls Tryz.prog 61 #[.slice A cs.length c,.func (.func N) #[] #[cap]] w
   fun e w'=>e=.returned (.int .i64 (ixF q cs))/\Below w.heap.size w w':=by
 have HO:=Hd ho;have HQ:=Hd hq;have HR:=Hd hr
 obtain ⟨n,hnn⟩:=ex_ (cs.length)
 have hn:=ho.1.2
 have HN:=Hd hnn
 rw [hnn] at hn ⊢
 clear ho hr hq hnn
 go_enter Tryz.func61,Tryz.ntmps61
 go_wp2
 go_loopw [8] (fun i wr=>∃ k:Nat,k<=n/\i=.int .i64 k/\Below w.heap.size w wr/\Hid (∀ j,j<k->q (cA cs j)=false)) (fun i _=>n-(intOf i).toNat)
 case atStart=>exact ⟨0,Nat.zero_le _,rfl,Below.refl _ _,Hd (fun j h=>absurd h (Nat.not_lt_zero _))⟩
 case round=>
  obtain ⟨k,hk,rfl,hb,HK⟩:=hrel
  rcases Nat.lt_or_ge k n with hlt | hge
  ·have hltj:k<cs.length:=by rw [HN.out];exact hlt
   obtain ⟨b,off,rfl,hbw,hc⟩:=(HO.out.below hb).2.get hltj
   have c0:wr.cell? ⟨b,off+k*8,none⟩=some (.string (cA cs k).name):=hc 0 (by decide)
   have c1:wr.cell? ⟨b,off+k*8+1,none⟩=some (.int .i64 (cA cs k).kind):=hc 1 (by decide)
   have c2:wr.cell? ⟨b,off+k*8+2,none⟩=some (.int .i64 (cA cs k).width):=hc 2 (by decide)
   have c3:wr.cell? ⟨b,off+k*8+3,none⟩=some (.int .i64 (cA cs k).places):=hc 3 (by decide)
   have c4:wr.cell? ⟨b,off+k*8+4,none⟩=some (.int .i64 (cA cs k).form):=hc 4 (by decide)
   have c5:wr.cell? ⟨b,off+k*8+5,none⟩=some (.bool (cA cs k).right):=hc 5 (by decide)
   have c6:wr.cell? ⟨b,off+k*8+6,none⟩=some (.int .u8 (cA cs k).fill):=hc 6 (by decide)
   have c7:wr.cell? ⟨b,off+k*8+7,none⟩=some (.bool (cA cs k).need):=hc 7 (by decide)
   have HC:=Hd (HQ.out k hltj wr hb)
   obtain ⟨x,hx⟩:=ex_ (cA cs k)
   have HX:=Hd hx
   rw [hx] at c0 c1 c2 c3 c4 c5 c6 c7 HC
   unfold colG at HC
   clear hc hx
   cases hot:q x with
   | true=>
    rw [hot] at HC
    have HT:=Hd (show ixF q cs=(k:Int) from ixF_hit hltj (by rw [Qbr hltj,HX.out];exact hot) (fun j hj hjk=>by rw [Qbr hj];exact HK.out j hjk))
    clear hot hltj
    go_wp2_with fail
    rw [HR.out]
    refine HC.out.mono ?_
    rintro e w2 ⟨rfl,hb2⟩
    have hB2:=Qab hb2 hb hb.size
    go_wp2
    go_ret
    exact ⟨congrArg (fun i=>Ending.returned (Value.int .i64 i)) HT.out.symm,hB2⟩
   | false=>
    rw [hot] at HC
    have HK2:=Hd (show ∀ j,j<k+1->q (cA cs j)=false from fun j hj=>by
     rcases Nat.lt_or_ge j k with h | h
     ·exact HK.out j h
     ·obtain rfl:j=k:=by omega
      rw [HX.out];exact hot)
    clear hot hltj
    go_wp2_with fail
    rw [HR.out]
    refine HC.out.mono ?_
    rintro e w2 ⟨rfl,hb2⟩
    have hB2:=Qab hb2 hb hb.size
    go_wp2
    go_roundw
    case rel=>exact ⟨k+1,by omega,by go_num,hB2,HK2⟩
    case measure=>simp [intOf];omega
  ·obtain rfl:k=n:=by omega
   have HT:=Hd (show ixF q cs=-1 from ixF_no (fun j hj=>by rw [Qbr hj];exact HK.out j (by rw [<- HN.out];exact hj)))
   go_wp2
   go_ret
   exact ⟨congrArg (fun i=>Ending.returned (Value.int .i64 i)) HT.out.symm,hb⟩
theorem ixk_c (N:Nat) (cap:Value) (q:RKd->Bool) (A:Option Addr) (c n:Nat) (ks:List RKd) (FA:Nat->Option Addr) (FC:Nat->Nat) (w:World) (hnk:n<=ks.length) (ho:Kinds w A ks FA FC) (hr:∀ args w,(Sem.run Tryz.prog (callFunc N args) w)=.ok (.enter N args) w)
  (hq:∀ j,j<n->∀ wr,Below w.heap.size w wr->Calls Tryz.prog N #[QaO (kA ks j) (FA j) (FC j),cap] wr fun e w'=>e=.returned (.bool (q (kA ks j)))/\Below wr.heap.size wr w') :
  Calls Tryz.prog 55 #[.slice A n c,.func (.func N) #[] #[cap]] w
   fun e w'=>e=.returned (.int .i64 (ixF q (ks.take n)))/\Below w.heap.size w w':=by
 have HO:=Hd ho;have HQ:=Hd hq;have HR:=Hd hr
 have hn:n<=9223372036854775807:=by have:=ho.1.2;omega
 clear ho hr hq
 go_enter Tryz.func55,Tryz.ntmps55
 go_wp2
 go_loopw [8] (fun i wr=>∃ k:Nat,k<=n/\i=.int .i64 k/\Below w.heap.size w wr/\Hid (∀ j,j<k->q (kA ks j)=false)) (fun i _=>n-(intOf i).toNat)
 case atStart=>exact ⟨0,Nat.zero_le _,rfl,Below.refl _ _,Hd (fun j h=>absurd h (Nat.not_lt_zero _))⟩
 case round=>
  obtain ⟨k,hk,rfl,hb,HK⟩:=hrel
  rcases Nat.lt_or_ge k n with hlt | hge
  ·have hltj:k<ks.length:=by omega
   obtain ⟨b,off,rfl,hbw,hc⟩:=(HO.out.below hb).2.1.get hltj
   have c0:wr.cell? ⟨b,off+k*4,none⟩=some (.string (kA ks k).tag):=hc 0 (by decide)
   have c1:wr.cell? ⟨b,off+k*4+1,none⟩=some (.slice (FA k) (kA ks k).fields.length (FC k)):=hc 1 (by decide)
   have c2:wr.cell? ⟨b,off+k*4+2,none⟩=some (.int .i64 (kA ks k).most):=hc 2 (by decide)
   have c3:wr.cell? ⟨b,off+k*4+3,none⟩=some (.string (kA ks k).under):=hc 3 (by decide)
   have HC:=Hd (HQ.out k hlt wr hb)
   obtain ⟨x,hx⟩:=ex_ (kA ks k)
   have HX:=Hd hx
   rw [hx] at c0 c1 c2 c3 HC
   unfold QaO at HC
   generalize FA k=B at c1 HC
   generalize FC k=D at c1 HC
   clear hc hx
   cases hot:q x with
   | true=>
    rw [hot] at HC
    have HT:=Hd (show ixF q (ks.take n)=(k:Int) from ixF_hit (by rw [List.length_take];omega) (by rw [List.getElem_take,kA_get hltj,HX.out];exact hot) (fun j hj hjk=>by rw [List.getElem_take,kA_get];exact HK.out j hjk))
    clear hot hltj
    go_wp2_with fail
    rw [HR.out]
    refine HC.out.mono ?_
    rintro e w2 ⟨rfl,hb2⟩
    have hB2:=Qab hb2 hb hb.size
    go_wp2
    go_ret
    exact ⟨congrArg (fun i=>Ending.returned (Value.int .i64 i)) HT.out.symm,hB2⟩
   | false=>
    rw [hot] at HC
    have HK2:=Hd (show ∀ j,j<k+1->q (kA ks j)=false from fun j hj=>by
     rcases Nat.lt_or_ge j k with h | h
     ·exact HK.out j h
     ·obtain rfl:j=k:=by omega
      rw [HX.out];exact hot)
    clear hot hltj
    go_wp2_with fail
    rw [HR.out]
    refine HC.out.mono ?_
    rintro e w2 ⟨rfl,hb2⟩
    have hB2:=Qab hb2 hb hb.size
    go_wp2
    go_roundw
    case rel=>exact ⟨k+1,by omega,by go_num,hB2,HK2⟩
    case measure=>simp [intOf];omega
  ·obtain rfl:k=n:=by omega
   have HT:=Hd (show ixF q (ks.take k)=-1 from ixF_no (fun j hj=>by rw [List.length_take] at hj;rw [List.getElem_take,kA_get];exact HK.out j (by omega)))
   go_wp2
   go_ret
   exact ⟨congrArg (fun i=>Ending.returned (Value.int .i64 i)) HT.out.symm,hb⟩
theorem Qap (a b:ByteArray):(a.toList==b.toList)=decide (a=b):=by
 by_cases h:a=b
 ·subst h;simp
 ·rw [decide_eq_false h];exact (Lib.bytes_beq_false_iff _ _).2 h
theorem obox {w:World} {g:Nat} {cs:Array Value} {T:TypeId} (h:w.heap[g]?=some (.cells cs T (0,0))) :
  (∀ i v,cs[i]?=some v->w.cell? ⟨g,i,none⟩=some v)/\(∀ i,i<cs.size->w.frozen? ⟨g,i,none⟩=false)/\g<w.heap.size:=by
 refine ⟨fun i v hi=>?_,fun i hi=>by simp [World.frozen?,h],Qan h⟩
 rw [cell_of_row w g i cs T _ h]
 exact hi
theorem Qaw {w:World} {g:Nat} {a b c d:Value} {T:TypeId} (h:w.heap[g]?=some (.cells #[a,b,c,d] T (0,0))) :
  (w.cell? ⟨g,0,none⟩=some a/\w.cell? ⟨g,1,none⟩=some b/\w.cell? ⟨g,2,none⟩=some c/\w.cell? ⟨g,3,none⟩=some d)/\(w.frozen? ⟨g,0,none⟩=false/\w.frozen? ⟨g,1,none⟩=false/\w.frozen? ⟨g,2,none⟩=false/\w.frozen? ⟨g,3,none⟩=false)/\g<w.heap.size:=by
 obtain ⟨h1,h2,h3⟩:=obox h
 exact ⟨⟨h1 0 _ rfl,h1 1 _ rfl,h1 2 _ rfl,h1 3 _ rfl⟩,⟨h2 0 (by simp),h2 1 (by simp),h2 2 (by simp),h2 3 (by simp)⟩,h3⟩
theorem Qai {w:World} {g:Nat} {a b c d e f i:Value} {T:TypeId} (h:w.heap[g]?=some (.cells #[a,b,c,d,e,f,i] T (0,0))) :
  (w.cell? ⟨g,0,none⟩=some a/\w.cell? ⟨g,1,none⟩=some b/\w.cell? ⟨g,2,none⟩=some c/\w.cell? ⟨g,3,none⟩=some d/\w.cell? ⟨g,4,none⟩=some e/\w.cell? ⟨g,5,none⟩=some f/\w.cell? ⟨g,6,none⟩=some i)/\g<w.heap.size:=by
 obtain ⟨h1,h2,h3⟩:=obox h
 exact ⟨⟨h1 0 _ rfl,h1 1 _ rfl,h1 2 _ rfl,h1 3 _ rfl,h1 4 _ rfl,h1 5 _ rfl,h1 6 _ rfl⟩,h3⟩
theorem QaC {w:World} {g:Nat} {a b c d e f i j:Value} {T:TypeId} (h:w.heap[g]?=some (.cells #[a,b,c,d,e,f,i,j] T (0,0))) :
  (w.cell? ⟨g,0,none⟩=some a/\w.cell? ⟨g,1,none⟩=some b/\w.cell? ⟨g,2,none⟩=some c/\w.cell? ⟨g,3,none⟩=some d/\w.cell? ⟨g,4,none⟩=some e/\w.cell? ⟨g,5,none⟩=some f/\w.cell? ⟨g,6,none⟩=some i/\w.cell? ⟨g,7,none⟩=some j)/\g<w.heap.size:=by
 obtain ⟨h1,h2,h3⟩:=obox h
 exact ⟨⟨h1 0 _ rfl,h1 1 _ rfl,h1 2 _ rfl,h1 3 _ rfl,h1 4 _ rfl,h1 5 _ rfl,h1 6 _ rfl,h1 7 _ rfl⟩,h3⟩
def fmtG (f:Fmt) (A:Option Addr) (c:Nat):Value:=.agg #[.int .u8 f.mark,.int .u8 f.quote,.slice A f.kinds.length c,.string f.head,.string f.tail,.string f.count,.string f.sum]
theorem kat1_c (k:RKd) (A:Option Addr) (C b:Nat) (t:ByteArray) (w:World) (hc:w.cell? ⟨b,0,none⟩=some (.string t)) :
  Calls Tryz.prog 56 #[QaO k A C,.pointer (some ⟨b,0,none⟩)] w fun e w'=>e=.returned (.bool (Qav t k))/\Below w.heap.size w w':=by
 have hc':∀ o,(w.alloc o).cell? ⟨b,0,none⟩=some (.string t):=fun o=>(World.cell?_alloc_some w _ o (by rw [hc];rfl)).trans hc
 have hb:=Qap k.tag t
 unfold Qav QaO
 cases hd:decide (k.tag=t) with
 | true=>
  rw [hd] at hb
  clear hc hd
  go_enter Tryz.func56,Tryz.ntmps56
  go_wp2
  go_ret
  exact ⟨rfl,by go_grown⟩
 | false=>
  rw [hd] at hb
  clear hc hd
  go_enter Tryz.func56,Tryz.ntmps56
  go_wp2
  go_ret
  exact ⟨rfl,by go_grown⟩
theorem cat1_c (k:Col) (b:Nat) (t:ByteArray) (w:World) (hc:w.cell? ⟨b,0,none⟩=some (.string t)) :
  Calls Tryz.prog 62 #[colG k,.pointer (some ⟨b,0,none⟩)] w fun e w'=>e=.returned (.bool (Qaj t k))/\Below w.heap.size w w':=by
 have hc':∀ o,(w.alloc o).cell? ⟨b,0,none⟩=some (.string t):=fun o=>(World.cell?_alloc_some w _ o (by rw [hc];rfl)).trans hc
 have hb:=Qap k.name t
 unfold Qaj colG
 cases hd:decide (k.name=t) with
 | true=>
  rw [hd] at hb
  clear hc hd
  go_enter Tryz.func62,Tryz.ntmps62
  go_wp2
  go_ret
  exact ⟨rfl,by go_grown⟩
 | false=>
  rw [hd] at hb
  clear hc hd
  go_enter Tryz.func62,Tryz.ntmps62
  go_wp2
  go_ret
  exact ⟨rfl,by go_grown⟩
theorem kf1_c (k x:RKd) (A XA:Option Addr) (C XC b:Nat) (w:World) (hc:w.heap[b]?=some (.cells #[.string x.tag,.slice XA x.fields.length XC,.int .i64 x.most,.string x.under] 52 (0,0))) :
  Calls Tryz.prog 92 #[QaO k A C,.pointer (some ⟨b,0,none⟩)] w fun e w'=>e=.returned (.bool (Qav x.tag k))/\Below w.heap.size w w':=by
 have hb:=Qap k.tag x.tag
 unfold Qav QaO
 obtain ⟨⟨g0,-,-,-⟩,-,-⟩:=Qaw (Qad hc (.cells #[.string k.tag,.slice A k.fields.length C,.int .i64 k.most,.string k.under] 52))
 cases hd:decide (k.tag=x.tag) with
 | true=>
  rw [hd] at hb
  clear hc hd
  go_enter Tryz.func92,Tryz.ntmps92
  go_wp2
  go_ret
  exact ⟨rfl,by go_grown⟩
 | false=>
  rw [hd] at hb
  clear hc hd
  go_enter Tryz.func92,Tryz.ntmps92
  go_wp2
  go_ret
  exact ⟨rfl,by go_grown⟩
theorem kf2_c (k x:RKd) (A XA:Option Addr) (C XC b:Nat) (w:World) (hc:w.heap[b]?=some (.cells #[.string x.tag,.slice XA x.fields.length XC,.int .i64 x.most,.string x.under] 52 (0,0))) :
  Calls Tryz.prog 97 #[QaO k A C,.pointer (some ⟨b,0,none⟩)] w fun e w'=>e=.returned (.bool (Qav x.under k))/\Below w.heap.size w w':=by
 have hb:=Qap k.tag x.under
 unfold Qav QaO
 obtain ⟨⟨-,-,-,g0⟩,-,-⟩:=Qaw (Qad hc (.cells #[.string k.tag,.slice A k.fields.length C,.int .i64 k.most,.string k.under] 52))
 cases hd:decide (k.tag=x.under) with
 | true=>
  rw [hd] at hb
  clear hc hd
  go_enter Tryz.func97,Tryz.ntmps97
  go_wp2
  go_ret
  exact ⟨rfl,by go_grown⟩
 | false=>
  rw [hd] at hb
  clear hc hd
  go_enter Tryz.func97,Tryz.ntmps97
  go_wp2
  go_ret
  exact ⟨rfl,by go_grown⟩
theorem cf1_c (k x:Col) (b:Nat) (w:World) (hc:w.cell? ⟨b,0,none⟩=some (.string x.name)) :
  Calls Tryz.prog 160 #[colG k,.pointer (some ⟨b,0,none⟩)] w fun e w'=>e=.returned (.bool (Qaj x.name k))/\Below w.heap.size w w':=by
 have hc':∀ o,(w.alloc o).cell? ⟨b,0,none⟩=some (.string x.name):=fun o=>(World.cell?_alloc_some w _ o (by rw [hc];rfl)).trans hc
 have hb:=Qap k.name x.name
 unfold Qaj colG
 cases hd:decide (k.name=x.name) with
 | true=>
  rw [hd] at hb
  clear hc hd
  go_enter Tryz.func160,Tryz.ntmps160
  go_wp2
  go_ret
  exact ⟨rfl,by go_grown⟩
 | false=>
  rw [hd] at hb
  clear hc hd
  go_enter Tryz.func160,Tryz.ntmps160
  go_wp2
  go_ret
  exact ⟨rfl,by go_grown⟩
theorem anyk_of (V W:Value) (b:Bool) (i:Int) (w0 w:World) (hi:decide (0<=i)=b) (hb:Below w0.heap.size w0 w)
  (h:Calls Tryz.prog 55 #[V,W] w fun e w'=>e=.returned (.int .i64 i)/\Below w.heap.size w w') :
  Calls Tryz.prog 94 #[V,W] w fun e w'=>e=.returned (.bool b)/\Below w.heap.size w w':=by
 have HI:=Hd hi
 clear hi
 go_enter Tryz.func94,Tryz.ntmps94
 go_wp2_with fail
 refine h.mono ?_
 rintro e w2 ⟨rfl,hb2⟩
 go_wp2
 go_ret
 exact ⟨congrArg (fun b=>Ending.returned (Value.bool b)) HI.out,hb2⟩
theorem anyc_of (V W:Value) (b:Bool) (i:Int) (w0 w:World) (hi:decide (0<=i)=b) (hb:Below w0.heap.size w0 w)
  (h:Calls Tryz.prog 61 #[V,W] w fun e w'=>e=.returned (.int .i64 i)/\Below w.heap.size w w') :
  Calls Tryz.prog 159 #[V,W] w fun e w'=>e=.returned (.bool b)/\Below w.heap.size w w':=by
 have HI:=Hd hi
 clear hi
 go_enter Tryz.func159,Tryz.ntmps159
 go_wp2_with fail
 refine h.mono ?_
 rintro e w2 ⟨rfl,hb2⟩
 go_wp2
 go_ret
 exact ⟨congrArg (fun b=>Ending.returned (Value.bool b)) HI.out,hb2⟩
theorem colat_c (k:RKd) (A:Option Addr) (C:Nat) (t:ByteArray) (w:World) (ho:Cols w A k.fields) :
  Calls Tryz.prog 32 #[QaO k A C,.string t] w fun e w'=>e=.returned (.int .i64 (ixF (Qaj t) k.fields))/\Below w.heap.size w w':=by
 have HO:=Hd ho
 clear ho
 unfold QaO
 go_enter Tryz.func32,Tryz.ntmps32
 go_wp2_with fail
 have hY:=Qac (w.alloc (.cells #[.string k.tag,.slice A k.fields.length C,.int .i64 k.most,.string k.under] 52)) (.cells #[.string t] 9) (g:=w.heap.size+1) (by simp)
 have hb0:Below w.heap.size w ((w.alloc (.cells #[.string k.tag,.slice A k.fields.length C,.int .i64 k.most,.string k.under] 52)).alloc (.cells #[.string t] 9)):=by go_grown
 generalize (w.alloc (.cells #[.string k.tag,.slice A k.fields.length C,.int .i64 k.most,.string k.under] 52)).alloc (.cells #[.string t] 9)=w1 at hY hb0 ⊢
 refine (ixc_c 62 (.pointer (some ⟨w.heap.size+1,0,none⟩)) (Qaj t) A C k.fields w1 (HO.out.below hb0) (fun _ _=>by kernel_rfl) (fun j hj wr hb=>cat1_c _ _ t wr (cell_of_row _ _ 0 _ _ _ (Qaa hY hb)))).mono ?_
 rintro e w2 ⟨rfl,hb2⟩
 have hB2:=Qab hb2 hb0 hb0.size
 go_wp2
 go_ret
 exact ⟨rfl,hB2⟩
def katI (f:Fmt) (t:ByteArray):Int:=ixF (Qav t) f.kinds
def katK (f:Fmt) (t:ByteArray):RKd:=if katI f t<0 then kind0 else kA f.kinds (katI f t).toNat
def katA (f:Fmt) (FA:Nat->Option Addr) (t:ByteArray):Option Addr:=if katI f t<0 then none else FA (katI f t).toNat
def katC (f:Fmt) (FC:Nat->Nat) (t:ByteArray):Nat:=if katI f t<0 then 0 else FC (katI f t).toNat
theorem QaX (f:Fmt) (FA:Nat->Option Addr) (FC:Nat->Nat) (t:ByteArray):(katI f t=-1/\katK f t=kind0/\katA f FA t=none/\katC f FC t=0) ∨
  ∃ k,k<f.kinds.length/\katI f t=(k:Int)/\katK f t=kA f.kinds k/\katA f FA t=FA k/\katC f FC t=FC k:=by
 unfold katK katA katC
 rcases QaT (Qav t) f.kinds with ⟨h,-⟩|⟨k,hk,h,-,-⟩
 ·have:katI f t=-1:=h
  rw [this]
  exact .inl ⟨rfl,rfl,rfl,rfl⟩
 ·have:katI f t=(k:Int):=h
  rw [this,if_neg (by omega),if_neg (by omega),if_neg (by omega)]
  exact .inr ⟨k,hk,rfl,rfl,rfl,rfl⟩
theorem QbR (f:Fmt) (A:Option Addr) (c:Nat) (FA:Nat->Option Addr) (FC:Nat->Nat) (t:ByteArray) (w:World) (ho:Kinds w A f.kinds FA FC) :
  Calls Tryz.prog 21 #[fmtG f A c,.string t] w fun e w'=>e=.returned (.tuple #[QaO (katK f t) (katA f FA t) (katC f FC t),.bool (decide (0<=katI f t))])/\Below w.heap.size w w':=by
 have HO:=Hd ho
 have hn:=ho.1.2
 have HK:=Hd (QaX f FA FC t)
 unfold fmtG
 clear ho
 go_enter Tryz.func21,Tryz.ntmps21
 go_wp2_with fail
 have hF:=Qad (Qad (Qac w (.cells #[.int .u8 f.mark,.int .u8 f.quote,.slice A f.kinds.length c,.string f.head,.string f.tail,.string f.count,.string f.sum] 24) rfl) (.cells #[.string t] 9)) (.cells #[.string ⟨#[]⟩,.slice none 0 0,.int .i64 0,.string ⟨#[]⟩] 52)
 have hY:=Qad (Qac (w.alloc (.cells #[.int .u8 f.mark,.int .u8 f.quote,.slice A f.kinds.length c,.string f.head,.string f.tail,.string f.count,.string f.sum] 24)) (.cells #[.string t] 9) (g:=w.heap.size+1) (by simp)) (.cells #[.string ⟨#[]⟩,.slice none 0 0,.int .i64 0,.string ⟨#[]⟩] 52)
 have hZ:=Qac ((w.alloc (.cells #[.int .u8 f.mark,.int .u8 f.quote,.slice A f.kinds.length c,.string f.head,.string f.tail,.string f.count,.string f.sum] 24)).alloc (.cells #[.string t] 9)) (.cells #[.string ⟨#[]⟩,.slice none 0 0,.int .i64 0,.string ⟨#[]⟩] 52) (g:=w.heap.size+1+1) (by simp)
 have hb0:Below w.heap.size w (((w.alloc (.cells #[.int .u8 f.mark,.int .u8 f.quote,.slice A f.kinds.length c,.string f.head,.string f.tail,.string f.count,.string f.sum] 24)).alloc (.cells #[.string t] 9)).alloc (.cells #[.string ⟨#[]⟩,.slice none 0 0,.int .i64 0,.string ⟨#[]⟩] 52)):=by go_grown
 generalize ((w.alloc (.cells #[.int .u8 f.mark,.int .u8 f.quote,.slice A f.kinds.length c,.string f.head,.string f.tail,.string f.count,.string f.sum] 24)).alloc (.cells #[.string t] 9)).alloc (.cells #[.string ⟨#[]⟩,.slice none 0 0,.int .i64 0,.string ⟨#[]⟩] 52)=w1 at hF hY hZ hb0 ⊢
 have hix:=ixk_c 56 (.pointer (some ⟨w.heap.size+1,0,none⟩)) (Qav t) A c f.kinds.length f.kinds FA FC w1 (Nat.le_refl _) (HO.out.below hb0) (fun _ _=>by kernel_rfl) (fun j hj wr hb=>kat1_c _ _ _ _ t wr (cell_of_row _ _ 0 _ _ _ (Qaa hY hb)))
 rw [List.take_length] at hix
 have HIX:=Hd hix
 obtain ⟨n,hnn⟩:=ex_ (f.kinds.length)
 have HN:=Hd hnn
 rw [hnn] at HIX hF hn ⊢
 clear hix hY hnn
 refine HIX.out.mono ?_
 rintro e w2 ⟨rfl,hb2⟩
 have hF2:=Qaa hF hb2
 have hZ2:=Qaa hZ hb2
 have hB2:=Qab hb2 hb0 hb0.size
 obtain ⟨⟨f0,f1,f2,f3,f4,f5,f6⟩,f7⟩:=Qai hF2
 obtain ⟨⟨z0,z1,z2,z3⟩,⟨y0,y1,y2,y3⟩,z4⟩:=Qaw hZ2
 have hn1:w.heap.size+1+1<w2.heap.size:=z4
 have HZ2:=Hd hZ2
 clear hF hZ hF2 hZ2 hb2 HIX
 rcases HK.out with ⟨h1,h2,h3,h4⟩|⟨k,hk,h1,h2,h3,h4⟩
 ·have H1:=Hd h1;have H2:=Hd h2;have H3:=Hd h3;have H4:=Hd h4
  have hi:ixF (Qav t) f.kinds=-1:=h1
  rw [hi]
  clear h1 h2 h3 h4 hi
  go_wp2
  refine bodyPost_ret (v:=.tuple #[.agg #[.string ⟨#[]⟩,.slice none 0 0,.int .i64 0,.string ⟨#[]⟩],.bool false]) (by simp [results,Tryz.results21,go_sem,z0,z1,z2,z3]) rfl ⟨by rw [H1.out,H2.out,H3.out,H4.out];rfl,?_⟩
  go_grown
 ·have hkn:k<n:=by rw [<- HN.out];exact hk
  obtain ⟨b,off,rfl,hbw,hc⟩:=(HO.out.below hB2).2.1.get hk
  have c0:w2.cell? ⟨b,off+k*4,none⟩=some (.string (kA f.kinds k).tag):=hc 0 (by decide)
  have c1:w2.cell? ⟨b,off+k*4+1,none⟩=some (.slice (FA k) (kA f.kinds k).fields.length (FC k)):=hc 1 (by decide)
  have c2:w2.cell? ⟨b,off+k*4+2,none⟩=some (.int .i64 (kA f.kinds k).most):=hc 2 (by decide)
  have c3:w2.cell? ⟨b,off+k*4+3,none⟩=some (.string (kA f.kinds k).under):=hc 3 (by decide)
  have H1:=Hd h1;have H2:=Hd h2;have H3:=Hd h3;have H4:=Hd h4
  have hi:ixF (Qav t) f.kinds=(k:Int):=h1
  rw [hi]
  have hk0:¬ (k:Int)<0:=by omega
  obtain ⟨x,hx⟩:=ex_ (kA f.kinds k)
  have HX:=Hd hx
  rw [hx] at c0 c1 c2 c3
  clear h1 h2 h3 h4 hi hc hk hx
  go_wp2
  have hz:((((w2.setCell ⟨w.heap.size+1+1,0,none⟩ (.string x.tag)).setCell ⟨w.heap.size+1+1,1,none⟩ (.slice (FA k) x.fields.length (FC k))).setCell ⟨w.heap.size+1+1,2,none⟩ (.int .i64 x.most)).setCell ⟨w.heap.size+1+1,3,none⟩ (.string x.under)).heap[w.heap.size+1+1]?=some (.cells #[.string x.tag,.slice (FA k) x.fields.length (FC k),.int .i64 x.most,.string x.under] 52 (0,0)):=Qae (Qae (Qae (Qae HZ2.out 0 _) 1 _) 2 _) 3 _
  obtain ⟨⟨r0,r1,r2,r3⟩,-,-⟩:=Qaw hz
  refine bodyPost_ret (v:=.tuple #[.agg #[.string x.tag,.slice (FA k) x.fields.length (FC k),.int .i64 x.most,.string x.under],.bool true]) (by simp [results,Tryz.results21,go_sem,r0,r1,r2,r3]) rfl ⟨by rw [H1.out,H2.out,H3.out,H4.out,HX.out,decide_eq_true (show (0:Int)<=(k:Int) by omega)];rfl,?_⟩
  go_grown
end Go.Proofs.YtaiabjiehpcaoaaGreatDoor
namespace Go.Proofs.YtaiabjiehpcaoaaGreatDoor.Work
def dayB (d:Int):Bool:=decide (1<=d/\d<=3652059)
theorem dayB_yes {d:Int} (h:dayB d=true):1<=d/\d<=3652059:=by simpa [dayB] using h
theorem dayB_mk {d:Int} (h:1<=d/\d<=3652059):dayB d=true:=by simpa [dayB] using h
theorem dayB_not {d:Int} (h:¬ (1<=d/\d<=3652059)):dayB d=false:=by
 cases e:dayB d with
 | false=>rfl
 | true=>exact absurd (dayB_yes e) h
end Go.Proofs.YtaiabjiehpcaoaaGreatDoor.Work
namespace Go.Proofs.YtaiabjiehpcaoaaGreatDoor
open Go.RowKit Limb Work
theorem retI {k:IntKind} {a b:Int} (h:a=b):Ending.returned (.int k a)=.returned (.int k b):=by rw [h]
theorem retB {a b:Bool} (h:a=b):Ending.returned (.bool a)=.returned (.bool b):=by rw [h]
theorem isday_c (n:Int) (w:World):Calls Tryz.prog 237 #[.int .i64 n] w fun e w'=>w=w'/\e=.returned (.bool (dayB n)):=by
 by_cases h:1<=n/\n<=3652059
 ·rw [dayB_mk h]
  go_enter Tryz.func237,Tryz.ntmps237
  go_wp2_with (go_at_call 96;refine (out_no _ _ _ _ h).mono ?_;rintro e w1 ⟨rfl,rfl⟩)
  go_ret
  exact ⟨rfl,rfl⟩
 ·rw [dayB_not h]
  go_enter Tryz.func237,Tryz.ntmps237
  go_wp2_with (go_at_call 96;refine (out_yes _ _ _ _ h).mono ?_;rintro e w1 ⟨rfl,rfl⟩)
  go_ret
  exact ⟨rfl,rfl⟩
theorem QaK (n lo hi:Int) (w:World):Calls Tryz.prog 176 #[.int .i64 n,.int .i64 lo,.int .i64 hi] w fun e w'=>w=w'/\e=.returned (.bool (decide (lo<=n/\n<=hi))):=by
 by_cases h1:lo<=n
 ·by_cases h2:n<=hi
  ·have e:decide (lo<=n/\n<=hi)=true:=decide_eq_true ⟨h1,h2⟩
   rw [e];clear e
   go_enter Tryz.func176,Tryz.ntmps176
   go_wp2
   go_ret
   exact ⟨rfl,rfl⟩
  ·have e:decide (lo<=n/\n<=hi)=false:=decide_eq_false (fun h=>h2 h.2)
   rw [e];clear e
   go_enter Tryz.func176,Tryz.ntmps176
   go_wp2
   go_ret
   exact ⟨rfl,rfl⟩
 ·have e:decide (lo<=n/\n<=hi)=false:=decide_eq_false (fun h=>h1 h.1)
  rw [e];clear e
  go_enter Tryz.func176,Tryz.ntmps176
  go_wp2
  go_ret
  exact ⟨rfl,rfl⟩
theorem rday_c (n:Int) (w:World):Calls Tryz.prog 208 #[.int .i64 n] w fun e w'=>w=w'/\e=.returned (.bool (dayB n)):=by
 go_enter Tryz.func208,Tryz.ntmps208
 go_wp2_with fail
 refine (QaK _ _ _ _).mono ?_
 rintro e w1 ⟨rfl,rfl⟩
 rw [show decide (1<=n/\n<=3652059)=dayB n from rfl]
 go_wp2
 go_ret
 exact ⟨rfl,rfl⟩
theorem weekday_c (d:Int) (w:World) (h:1<=d/\d<=4000000):Calls Tryz.prog 241 #[.int .i64 d] w fun e w'=>w=w'/\e=.returned (.int .i64 ((d-1)%7)):=by
 obtain ⟨h1,h2⟩:=h
 go_enter Tryz.func241,Tryz.ntmps241
 go_wp2
 go_ret
 exact ⟨rfl,rfl⟩
end Go.Proofs.YtaiabjiehpcaoaaGreatDoor
namespace Go.Proofs.YtaiabjiehpcaoaaGreatDoor
open Go.RowKit Limb Work
set_option linter.unusedVariables false
set_option linter.unusedSimpArgs false
theorem beqT {a b:Int} (h:a=b):(a==b)=true:=beq_iff_eq.2 h
theorem beqF {a b:Int} (h:¬ a=b):(a==b)=false:=beq_eq_false_iff_ne.2 h
theorem leap_c (y:Int) (w:World) (h:1<=y/\y<=10000):Calls Tryz.prog 277 #[.int .i64 y] w fun e w'=>w=w'/\e=.returned (.bool (leapB y)):=by
 obtain ⟨h1,h2⟩:=h
 by_cases a:y%4=0
 ·by_cases b:y%100=0
  ·by_cases c:y%400=0
   ·have e:leapB y=true:=decide_eq_true ⟨a,Or.inr c⟩
    rw [e]
    have a:=beqT a;have b:=beqT b;have c:=beqT c;clear e
    go_enter Tryz.func277,Tryz.ntmps277
    go_wp2
    go_ret
    exact ⟨rfl,rfl⟩
   ·have e:leapB y=false:=decide_eq_false (fun h=>h.2.elim (fun h=>h b) c)
    rw [e]
    have a:=beqT a;have b:=beqT b;have c:=beqF c;clear e
    go_enter Tryz.func277,Tryz.ntmps277
    go_wp2
    go_ret
    exact ⟨rfl,rfl⟩
  ·have e:leapB y=true:=decide_eq_true ⟨a,Or.inl b⟩
   rw [e]
   have a:=beqT a;have b:=beqF b;clear e
   go_enter Tryz.func277,Tryz.ntmps277
   go_wp2
   go_ret
   exact ⟨rfl,rfl⟩
 ·have e:leapB y=false:=decide_eq_false (fun h=>a h.1)
  rw [e]
  have a:=beqF a;clear e
  go_enter Tryz.func277,Tryz.ntmps277
  go_wp2
  go_ret
  exact ⟨rfl,rfl⟩
theorem dim_two {y:Int} : dim y 2=if leapB y=true then 29 else 28:=rfl
theorem daysof_c (y m:Int) (w:World) (h:1<=y/\y<=10000) (hm:1<=m/\m<=12):Calls Tryz.prog 267 #[.int .i64 y,.int .i64 m] w fun e w'=>Below w.heap.size w w'/\e=.returned (.int .i64 (dim y m)):=by
 have HY:=Hd h
 have hm12:m=1∨m=2∨m=3∨m=4∨m=5∨m=6∨m=7∨m=8∨m=9∨m=10∨m=11∨m=12:=by omega
 clear h hm
 rcases hm12 with rfl | rfl | rfl | rfl | rfl | rfl | rfl | rfl | rfl | rfl | rfl | rfl
 case inr.inl=>
  cases hl:leapB y with
  | true=>
   rw [show dim y 2=29 by rw [dim_two,if_pos hl]]
   have HL:=Hd hl;clear hl
   go_enter Tryz.func267,Tryz.ntmps267
   go_wp2_with (go_at_call 277;refine (leap_c _ _ HY.out).mono ?_;rw [HL.out];rintro e w1 ⟨rfl,rfl⟩)
   go_ret
   exact ⟨by go_grown,rfl⟩
  | false=>
   rw [show dim y 2=28 by rw [dim_two,if_neg (by rw [hl];simp)]]
   have HL:=Hd hl;clear hl
   have hB:∀ w:World,(Instr.build 271 #[(0,.int .i64 31),(1,.int .i64 28),(2,.int .i64 31),(3,.int .i64 30),(4,.int .i64 31),(5,.int .i64 30),(6,.int .i64 31),(7,.int .i64 31),(8,.int .i64 30),(9,.int .i64 31),(10,.int .i64 30),(11,.int .i64 31)]).run Tryz.prog w=.ok (.agg #[.int .i64 31,.int .i64 28,.int .i64 31,.int .i64 30,.int .i64 31,.int .i64 30,.int .i64 31,.int .i64 31,.int .i64 30,.int .i64 31,.int .i64 30,.int .i64 31]) w:=fun w=>run_build w _ _ _ (by kernel_rfl)
   go_enter Tryz.func267,Tryz.ntmps267
   go_wp2_with (go_at_call 277;refine (leap_c _ _ HY.out).mono ?_;rw [HL.out];rintro e w1 ⟨rfl,rfl⟩)
   simp [Instr.index,run_underlying Tryz.underlying271,asIntOf,go_sem]
   go_wp2
   go_ret
   exact ⟨by go_grown,rfl⟩
 all_goals
  have hB:∀ w:World,(Instr.build 271 #[(0,.int .i64 31),(1,.int .i64 28),(2,.int .i64 31),(3,.int .i64 30),(4,.int .i64 31),(5,.int .i64 30),(6,.int .i64 31),(7,.int .i64 31),(8,.int .i64 30),(9,.int .i64 31),(10,.int .i64 30),(11,.int .i64 31)]).run Tryz.prog w=.ok (.agg #[.int .i64 31,.int .i64 28,.int .i64 31,.int .i64 30,.int .i64 31,.int .i64 30,.int .i64 31,.int .i64 31,.int .i64 30,.int .i64 31,.int .i64 30,.int .i64 31]) w:=fun w=>run_build w _ _ _ (by kernel_rfl)
  go_enter Tryz.func267,Tryz.ntmps267
  go_wp2
  simp [Instr.index,run_underlying Tryz.underlying271,asIntOf,go_sem]
  go_wp2
  go_ret
  exact ⟨by go_grown,rfl⟩
theorem before_c (y:Int) (w:World) (h:1<=y/\y<=10000):Calls Tryz.prog 266 #[.int .i64 y] w fun e w'=>w=w'/\e=.returned (.int .i64 (bef y)):=by
 obtain ⟨h1,h2⟩:=h
 go_enter Tryz.func266,Tryz.ntmps266
 go_wp2
 go_ret
 exact ⟨rfl,rfl⟩
end Go.Proofs.YtaiabjiehpcaoaaGreatDoor
