/- A kind, a column is put behind the others: the rows in memory. -/
import Derived.Test.YtbfbgappinilmaaGreatDoorFB
import Derived.Deep.AppendSrc
import Derived.Test.YtbfbgappinilmaaGreatDoorF9
import Derived.Shelf.Lay
import Derived.Shelf.Strings.BuilderF
import Derived.Shelf.Strings.OnBuilder
import Derived.Shelf.Strings.BuilderK
import Derived.Test.YtbfbgappinilmaaGreatDoorProg
import Derived.Test.YtbfbgappinilmaaGreatDoorE2
import Derived.Test.YtbfbgappinilmaaGreatDoorK4
import Derived.Test.YtbfbgappinilmaaGreatDoorM3
import Derived.Test.YtbfbgappinilmaaGreatDoorA8
import Derived.Test.YtbfbgappinilmaaGreatDoorF1
import Derived.Deep.RegionHeld3
import Derived.Test.YtbfbgappinilmaaGreatDoorU2
import Derived.Test.YtbfbgappinilmaaGreatDoorShelf
import Derived.StillTail
import Derived.WalkKit
import Derived.Lib.Hide
import Derived.Test.YtbfbgappinilmaaGreatDoorV2
import Derived.Test.YtbfbgappinilmaaGreatDoorShelf4
import Derived.Deep.AppendLies
import Derived.Deep.RegionLaw
-- merged: FC ZP Z3 Z4 Z5 Z6 Z7 HB E3 K5 M4 M5 E5 T12 T16 T17 RH V4 V5 FE FF FG FH UN G1
namespace Go.Proofs.YtbfbgappinilmaaGreatDoor
open Go.RowKit Limb Nmb Work
set_option linter.unusedVariables false
set_option linter.unusedSimpArgs false
theorem own_setAt {w:World} {base:Nat} {e:TypeId} {size n cap g i:Nat} {xs:List Value} (h:w.ownsRow base e size (.slice (some ⟨g,0,none⟩) n cap) n xs) (hi:i<n*size) (u:Value):(w.setCell ⟨g,i,none⟩ u).ownsRow base e size (.slice (some ⟨g,0,none⟩) n cap) n (xs.set i u):=by
 obtain ⟨h1,h2⟩:=h
 rcases h2 with ⟨hv,hn⟩|⟨g',cap',cur,hv,hb,hh,h3,h4,h5,h6⟩
 ·cases hv
 ·cases hv
  refine ⟨by rw [List.length_set,h1],.inr ⟨g,cap,cur.setIfInBounds i u,rfl,hb,heap_set hh i u,h3,h4,by rw [Array.size_setIfInBounds,h5],?_⟩⟩
  rw [Array.toList_setIfInBounds,List.take_set,h6]
theorem own_rowF {w:World} {base:Nat} {e:TypeId} {size n:Nat} {A:Option Addr} {c:Nat} {xs:List Value} (h:w.ownsRow base e size (.slice A n c) n xs) (hn:0<n):∃ g,A=some ⟨g,0,none⟩/\base<=g/\g<w.heap.size/\∀ j,j<n*size->w.cell? ⟨g,j,none⟩=xs[j]?:=by
 obtain ⟨h1,h2⟩:=h
 rcases h2 with ⟨h2,h3⟩|⟨g,cap,cur,hv,hb,hh,hn2,_,hs,ht⟩
 ·omega
 ·cases hv
  refine ⟨g,rfl,hb,lt_heap hh,fun j hj=>?_⟩
  rw [cell_of_row _ _ _ _ _ _ hh,<- ht,List.getElem?_take,if_pos hj]
  simp
theorem grown_type {w w':World} {base:Nat} {e:TypeId} {size n:Nat} {v:Value} {xs:List Value} (h:w.ownsRow base e size v n xs) (hg:w.grownBy w' v.ownBlock) {g:Nat} {cs:Array Value} {T:TypeId} {f:Nat×Nat} (hh:w.heap[g]?=some (.cells cs T f)) (hT:T≠e):w'.heap[g]?=some (.cells cs T f):=by
 refine (hg.block g (lt_heap hh) fun k=>?_).trans hh
 rcases h.2 with ⟨hv,-⟩|⟨g',cap,cur,hv,_,h2,_⟩
 ·rw [hv] at k;cases k
 ·rw [hv] at k
  injection k with k
  subst k
  rw [h2] at hh
  injection hh with hh
  injection hh with _ hh
  exact hT hh.symm
theorem k_cellsF (w:World) (us:List Value) (t:TypeId):∀ j x,us[j]?=some x->(w.alloc (.cells us.toArray t)).cell? ((⟨w.heap.size,0,none⟩:Addr).add j)=some x:=by
 intro j x hj
 rw [Addr.add_lit,cell_of_row _ _ _ _ _ _ (heap_alloc_new w _)]
 simpa using hj
theorem zk_cells (w:World) (us:List Value) (t:TypeId):∀ j x,us[j]?=some x->(w.alloc (.cells us.toArray t)).cell? ((⟨w.heap.size,0,none⟩:Addr).add j)=some x:=by
 intro j x hj
 rw [Addr.add_lit,cell_of_row _ _ _ _ _ _ (heap_alloc_new w _)]
 simpa using hj
theorem wpList_zpush {P:Program} {w:World} {ops:Array Oper} {rest:List Oper} {o:Oper} {a:Act} {Q:Exit->Act->World->Prop}
  (hg:o.guard=none) (s x:Operand) (t:TypeId) (hop:o.op=Op.call { callee:=Callee.builtin Builtin.append,args:=#[s,x],argTypes:=#[t,t] })
  (base:Nat) (e:TypeId) (i:TypeInfo) (z:Value) (size bytes:Nat) (h1:P.underlying t=some (.slice e)) (h2:P.info? e=some i) (hz:i.zero=some z) (h4:i.size=size) (hby:i.bytes=bytes) (hzs:z.cells.size=size) (hsz:0<size)
  (v:Value) (n:Nat) (xs:List Value) (hs:a.eval s=v) (hown:w.ownsRow base e size v n xs) (us:List Value) (hus:us.length=size) (hx:a.eval x=.slice (some ⟨w.heap.size,0,none⟩) 1 1)
  (h1c:∀ u∈us,u.oneCell'=true) (b1:n+1<=maxLen) (b2:(n+1)*bytes<=140737488355328) (hbase:base<=w.heap.size)
  (hK:∀ A c w',w'.ownsRow base e size (.slice A (n+1) c) (n+1) (xs++us)->w.grownBy w' v.ownBlock->wpList P ops Q rest (a.put o.dst (.slice A (n+1) c)) w') :
  wpList P ops Q (o :: rest) a (w.alloc (.cells us.toArray e)) :=
 wpList_append_own _ hg s x t hop base e i z size bytes h1 h2 hz h4 hby hzs hsz v n xs hs (hown.alloc _) ⟨w.heap.size,0,none⟩ 1 1 us hx (by omega) (zk_cells w us e) h1c b1 b2 (by simp;omega) fun v' w' r1 r2 _=>by
  obtain ⟨A,c,rfl⟩:=own_slice r1
  exact hK A c w' r1 (grown_alloc r2)
theorem run_append_nilZ {P:Program} {w:World} {base:Nat} {t ty e:TypeId} {i:TypeInfo} {size n c c':Nat} {A:Option Addr} {xs:List Value} (ht:P.underlying t=some (.slice e)) (hi:P.info? e=some i) (hs:i.size=size) (hown:w.ownsRow base e size (.slice A n c) n xs) :
  (Builtin.append_ #[t,t] ty #[.slice A n c,.slice none 0 c']).run P w=.ok (.slice A n c) w:=by
 have hc:=own_cap hown
 cases A with
 | some a=>
  obtain ⟨-,h | ⟨g,cap,cur,hv,-⟩⟩:=hown
  ·cases h.1
  ·cases hv
   have:=run_append_room_src (P:=P) w t t ty e i ht hi g 0 n c (.slice none 0 c') 0 [] (Src.ofNil w ht c') (by omega) (fun j hj=>by simp at hj) (fun j hj=>by simp at hj)
   simpa [World.setCells] using this
 | none=>
  obtain ⟨-,h | ⟨g,cap,cur,hv,-⟩⟩:=hown
  ·obtain ⟨h1,h2⟩:=h
   subst h2
   have hn:0+0<=c:=Nat.zero_le _
   simp [Builtin.append_,run_underlying ht,sizeOf,typeInfo,hi,(Src.ofNil (P:=P) w ht c':Src P i.size t _ 0 [] w).len,(Src.ofNil (P:=P) w ht c':Src P i.size t _ 0 [] w).cells]
  ·cases hv
theorem wpList_zapp {P:Program} {w:World} {ops:Array Oper} {rest:List Oper} {o:Oper} {a:Act} {Q:Exit->Act->World->Prop}
  (hg:o.guard=none) (s x:Operand) (t:TypeId) (hop:o.op=Op.call { callee:=Callee.builtin Builtin.append,args:=#[s,x],argTypes:=#[t,t] })
  (base:Nat) (e:TypeId) (i:TypeInfo) (z:Value) (size bytes:Nat) (h1:P.underlying t=some (.slice e)) (h2:P.info? e=some i) (hz:i.zero=some z) (h4:i.size=size) (hby:i.bytes=bytes) (hzs:z.cells.size=size) (hsz:0<size)
  (A:Option Addr) (n c:Nat) (xs:List Value) (hs:a.eval s=.slice A n c) (hown:w.ownsRow base e size (.slice A n c) n xs) (X:Option Addr) (m d:Nat) (news:List Value) (hl:news.length=m*size) (hx:a.eval x=.slice X m d)
  (hsrc:0<m->∃ b off,X=some ⟨b,off,none⟩/\∀ j u,news[j]?=some u->w.cell? ⟨b,off+j,none⟩=some u)
  (h1c:∀ u∈news,u.oneCell'=true) (b1:n+m<=maxLen) (b2:(n+m)*bytes<=140737488355328) (hbase:base<=w.heap.size)
  (hK:∀ A' c' w',w'.ownsRow base e size (.slice A' (n+m) c') (n+m) (xs++news)->w.grownBy w' (Value.slice A n c).ownBlock->wpList P ops Q rest (a.put o.dst (.slice A' (n+m) c')) w') :
  wpList P ops Q (o :: rest) a w:=by
 cases X with
 | some ad=>
  refine wpList_append_own _ hg s x t hop base e i z size bytes h1 h2 hz h4 hby hzs hsz (.slice A n c) n xs hs hown ad m d news hx hl ?_ h1c b1 b2 hbase fun v' w' r1 r2 _=>?_
  ·rcases Nat.eq_zero_or_pos m with h0 | h0
   ·subst h0
    have:news=[]:=List.eq_nil_of_length_eq_zero (by omega)
    subst this
    intro j u h;simp at h
   ·obtain ⟨b,off,e1,hc⟩:=hsrc h0
    cases e1
    intro j u hj
    rw [Addr.add_lit]
    exact hc j u hj
  ·obtain ⟨A',c',rfl⟩:=own_slice r1
   exact hK A' c' w' r1 r2
 | none=>
  have h0:m=0:=by
   rcases Nat.eq_zero_or_pos m with h0 | h0
   ·exact h0
   ·obtain ⟨b,off,e1,-⟩:=hsrc h0
    cases e1
  subst h0
  have hn:news=[]:=List.eq_nil_of_length_eq_zero (by omega)
  subst hn
  refine wpList_plain hg fun K hKK=>?_
  have hr:=run_append_nilZ (P:=P) (w:=w) (t:=t) (ty:=o.type) (c':=d) h1 h2 h4 hown
  unfold Oper.wp execOp
  simp only [hop,resolve,invoke,builtin,Sem.run_bind,Sem.run_pure,Result.andThen_ok,List.map_toArray,List.map_cons,List.map_nil,hs,hx,hr]
  refine hKK _ _ (hK A c w (by simpa using hown) (World.grownBy.refl _ _))
theorem flat_take {α β:Type} {l:List α} {F:α->List β} {j:Nat} (h:j<l.length):(l.take (j+1)).flatMap F=(l.take j).flatMap F++F l[j]:=by
 rw [List.take_succ_eq_append_getElem h,List.flatMap_append]
 simp
theorem FmtK.places {f:Fmt} (hf:FmtK f) {j:Nat} (hj:j<f.kinds.length) {i:Nat} (hi:i<(kA f.kinds j).fields.length):(cA (kA f.kinds j).fields i).kind=2->0<=(cA (kA f.kinds j).fields i).places/\(cA (kA f.kinds j).fields i).places<=9:=((hf.kinds j hj).cols i hi).places
theorem kinds_cols {w:World} {A:Option Addr} {ks:List RKd} {FA:Nat->Option Addr} {FC:Nat->Nat} (h:Kinds w A ks FA FC) {j:Nat} (hj:j<ks.length):Cols w (FA j) (kA ks j).fields:=(h.2.2 j hj).1
end Go.Proofs.YtbfbgappinilmaaGreatDoor
namespace Go.Proofs
open Go.Shelf
def Tryz.layH166_ren:Go.Shelf.Ren:=⟨fun | 166=>43 | 240=>85 | 276=>127 | n=>n,fun | 0=>0 | 3=>3 | 4=>4 | 5=>5 | 9=>9 | 20=>20 | 31=>37 | 37=>93 | 70=>92 | 72=>95 | 75=>98 | 76=>99 | 80=>76 | 127=>142 | 164=>174 | n=>n,fun | n=>n⟩
theorem Tryz.layH166:Go.Proofs.Lays.n166 Tryz.prog Tryz.layH166_ren:={
 mixed:=by kernel_rfl
 f166:=Tryz.func43.trans (congrArg some (by kernel_rfl))
 f240:=Tryz.func85.trans (congrArg some (by kernel_rfl))
 f276:=Tryz.func127.trans (congrArg some (by kernel_rfl))
 t0:=Tryz.underlying0
 a0:=Tryz.isAgg0
 z0:=Tryz.sizeOf0
 v0:=Tryz.zeroValue0
 t3:=Tryz.underlying3
 a3:=Tryz.isAgg3
 z3:=Tryz.sizeOf3
 v3:=Tryz.zeroValue3
 t4:=Tryz.underlying4
 a4:=Tryz.isAgg4
 z4:=Tryz.sizeOf4
 v4:=Tryz.zeroValue4
 t9:=Tryz.underlying9
 a9:=Tryz.isAgg9
 z9:=Tryz.sizeOf9
 v9:=Tryz.zeroValue9
 t20:=Tryz.underlying20
 a20:=Tryz.isAgg20
 z20:=Tryz.sizeOf20
 v20:=Tryz.zeroValue20
 t37:=Tryz.underlying93
 a37:=Tryz.isAgg93
 z37:=Tryz.sizeOf93
 v37:=Tryz.zeroValue93
 t70:=Tryz.underlying92
 a70:=Tryz.isAgg92
 z70:=Tryz.sizeOf92
 v70:=Tryz.zeroValue92
 t72:=Tryz.underlying95
 a72:=Tryz.isAgg95
 z72:=Tryz.sizeOf95
 v72:=Tryz.zeroValue95
 t75:=Tryz.underlying98
 a75:=Tryz.isAgg98
 z75:=Tryz.sizeOf98
 v75:=Tryz.zeroValue98
 t164:=Tryz.underlying174
 a164:=Tryz.isAgg174
 z164:=Tryz.sizeOf174
 v164:=Tryz.zeroValue174 }
theorem Tryz.layH166_extra:Builder.Extra Tryz.prog Tryz.layH166_ren:={
 sizeBuilder:=by kernel_rfl
 liesBuilder:=by kernel_rfl
 t5:=Tryz.underlying5
 a5:=Tryz.isAgg5
 z5:=Tryz.sizeOf5
 v5:=Tryz.zeroValue5
 infoByte:=by kernel_rfl
 cellsByte:=by kernel_rfl
 sizeByte:=by kernel_rfl
 neB5:=by decide }
open Go.RowKit in
theorem Tryz.wstrk_c (B b:Nat) (bs:List Value) (s:ByteArray) (w:World) (h:Lib.IsBuilderF 95 5 B b bs w) (hlen:bs.length+s.size<=140737488355328) (hBw:B<=w.heap.size) :
  Calls Tryz.prog 43 #[.pointer (some ⟨b,0,none⟩),.string s] w fun e w'=>e=.returned (.tuple #[.int .i64 s.size,.nilIface])/\(Lib.BuilderAtF 95 5 B b (.pointer (some ⟨b,0,none⟩)) (bs++Lib.strCells s) w'/\Below B w w'/\Lib.OthersKept 5 (some b) w w') :=
 Any.Builder_WriteString_k Tryz.layH166 Tryz.layH166_extra B b bs s w h hlen hBw
end Go.Proofs
namespace Go.Proofs.YtbfbgappinilmaaGreatDoor
open Go.RowKit Limb Work
set_option linter.unusedVariables false
set_option linter.unusedSimpArgs false
end Go.Proofs.YtbfbgappinilmaaGreatDoor
namespace Go.Proofs.YtbfbgappinilmaaGreatDoor
open Go.RowKit Limb Nmb
set_option linter.unusedVariables false
set_option linter.unusedSimpArgs false
end Go.Proofs.YtbfbgappinilmaaGreatDoor
namespace Go.Proofs.YtbfbgappinilmaaGreatDoor
open Go.RowKit Limb Work Nmb
set_option linter.unusedVariables false
set_option linter.unusedSimpArgs false
end Go.Proofs.YtbfbgappinilmaaGreatDoor
namespace Go.Proofs.YtbfbgappinilmaaGreatDoor
open Go.RowKit Limb Work
set_option linter.unusedVariables false
set_option linter.unusedSimpArgs false
end Go.Proofs.YtbfbgappinilmaaGreatDoor
namespace Go.Proofs.YtbfbgappinilmaaGreatDoor
open Go.RowKit Limb
set_option linter.unusedVariables false
set_option linter.unusedSimpArgs false
def readImp (l:List UInt8) (a:Int):Int×Int×Int :=
 if ¬ (0<=a/\a<=9) then (0,0,1)
 else if decide (30<l.length)||!digB (if l.head? == some 45 then l.tail else l) then (0,0,10)
 else if numL (if l.head? == some 45 then l.tail else l)<=1000000000000000 then
  (if l.head? == some 45 then -(numL (if l.head? == some 45 then l.tail else l):Int) else (numL (if l.head? == some 45 then l.tail else l):Int),a,0)
 else (0,0,1)
theorem RetD.of {r r':Int×Int×Int} {w w':World} {e:Ending} (h:RetD r w e w') (hr:r=r'):RetD r' w e w':=by subst hr;exact h
theorem made_nat {n:Nat} : made (n:Int) 0=if n<=1000000000000000 then ((n:Int),0,0) else (0,0,1):=by
 unfold made
 rw [Int.natAbs_natCast]
set_option maxHeartbeats 4000000 in
set_option maxRecDepth 100000 in
theorem wreadimp_c (s:ByteArray) (a:Int) (w:World) (hs:s.size<=9223372036854775807) :
  Calls Tryz.prog 159 #[.string s,.int .i64 a] w (RetD (readImp s.data.toList a) w):=by
 by_cases h1:0<=a/\a<=9
 case neg=>
  have HO:=Lib.hid (fun w=>out_yes a 0 9 w h1)
  rw [show readImp s.data.toList a=(0,0,1) from if_pos h1]
  clear h1
  go_enter Tryz.func159,Tryz.ntmps159
  go_wp2_with fail
  have hX:=heap_new w (.cells #[.int .i64 0,.int .i64 0] 31) rfl
  have hb0:Below w.heap.size w (w.alloc (.cells #[.int .i64 0,.int .i64 0] 31)):=by go_grown
  generalize w.alloc (.cells #[.int .i64 0,.int .i64 0] 31)=W at hX hb0 ⊢
  obtain ⟨g0,g1,g2,g3,g4⟩:=box2 hX
  refine (HO.out _).mono ?_
  rintro e w1 ⟨rfl,rfl⟩
  go_wp2
  exact bodyPost_ret (v:=.tuple #[.agg #[.int .i64 0,.int .i64 0],.int .i64 1]) (by simp [results,Tryz.results159,go_sem,g0,g1]) rfl ⟨rfl,by go_grown⟩
 have HO:=Lib.hid (fun w=>out_no a 0 9 w h1)
 have hr:readImp s.data.toList a=if decide (30<s.data.toList.length)||!digB (if s.data.toList.head? == some 45 then s.data.toList.tail else s.data.toList) then (0,0,10)
   else if numL (if s.data.toList.head? == some 45 then s.data.toList.tail else s.data.toList)<=1000000000000000 then
    (if s.data.toList.head? == some 45 then -(numL (if s.data.toList.head? == some 45 then s.data.toList.tail else s.data.toList):Int) else (numL (if s.data.toList.head? == some 45 then s.data.toList.tail else s.data.toList):Int),a,0)
   else (0,0,1):=if_neg (fun h=>h h1)
 have HC:=Lib.hid (fun w=>cutp_c s 45 w hs)
 obtain ⟨neg,hneg⟩:∃ b,hasB s 45=b:=⟨_,rfl⟩
 have hneg':(s.data.toList.head? == some 45)=neg:=hneg
 have hsl:s.data.toList.length=s.size:=by simp
 rw [hneg',hsl] at hr
 have HR:=Lib.hid hr
 have HN:=Lib.hid hneg
 clear hr h1 hneg hneg'
 go_enter Tryz.func159,Tryz.ntmps159
 go_wp2_with fail
 have hX:=heap_new w (.cells #[.int .i64 0,.int .i64 0] 31) rfl
 have hb0:Below w.heap.size w (w.alloc (.cells #[.int .i64 0,.int .i64 0] 31)):=by go_grown
 generalize w.alloc (.cells #[.int .i64 0,.int .i64 0] 31)=W at hX hb0 ⊢
 obtain ⟨g0,g1,g2,g3,g4⟩:=box2 hX
 refine (HO.out _).mono ?_
 rintro e w1 ⟨rfl,rfl⟩
 go_wp2_with fail
 refine (HC.out _).mono ?_
 rintro e w2 ⟨rfl,t,rfl,ht⟩
 rw [HN.out] at ht ⊢
 have hr:=HR.out
 rw [<- ht] at hr
 have hts:t.size<=s.size:=by
  have h1:t.data.toList.length=t.size:=by simp
  rw [<- h1,ht,<- hsl]
  split
  ·simp
  ·exact Nat.le_refl _
 clear ht hsl
 have HR:=Lib.hid hr
 clear hr
 by_cases hl:30<s.size
 ·have hl':(30:Int)<(s.size:Int):=by omega
  have HE:=Lib.hid (show readImp s.data.toList a=(0,0,10) by rw [HR.out,decide_eq_true hl];rfl)
  clear hl
  go_wp2
  exact bodyPost_ret (v:=.tuple #[.agg #[.int .i64 0,.int .i64 0],.int .i64 10]) (by simp [results,Tryz.results159,go_sem,g0,g1]) rfl (RetD.of (r:=(0,0,10)) ⟨rfl,by go_grown⟩ HE.out.symm)
 have hl':¬ (30:Int)<(s.size:Int):=by omega
 have HG:=Lib.hid (fun w=>isdig_c t w (by omega))
 cases hg:digB t.data.toList with
 | false=>
  rw [hg] at HG
  have HE:=Lib.hid (show readImp s.data.toList a=(0,0,10) by rw [HR.out,hg];simp)
  clear hg
  go_wp2_with fail
  refine (HG.out _).mono ?_
  rintro e w3 ⟨rfl,rfl⟩
  go_wp2
  exact bodyPost_ret (v:=.tuple #[.agg #[.int .i64 0,.int .i64 0],.int .i64 10]) (by simp [results,Tryz.results159,go_sem,g0,g1]) rfl (RetD.of (r:=(0,0,10)) ⟨rfl,by go_grown⟩ HE.out.symm)
 | true=>
  rw [hg] at HG
  have hin:inB (t.data.toList++(⟨#[]⟩:ByteArray).data.toList) 48 57=true:=by
   unfold digB at hg
   simp at hg
   simpa using hg.2
  have HRD:=Lib.hid (fun w=>read_c false t ⟨#[]⟩ w hin (by show t.size+0<=40;omega))
  have hrr:readR false (t.data.toList++(⟨#[]⟩:ByteArray).data.toList) ((⟨#[]⟩:ByteArray).size:Int)=if numL t.data.toList<=1000000000000000 then ((numL t.data.toList:Int),0,0) else (0,0,1):=by
   unfold readR
   rw [if_neg (by decide),show t.data.toList++(⟨#[]⟩:ByteArray).data.toList=t.data.toList by simp]
   exact made_nat
  have hff:=HR.out
  rw [hg,decide_eq_false hl] at hff
  obtain ⟨n,hn⟩:∃ n,numL t.data.toList=n:=⟨_,rfl⟩
  rw [hn] at hff hrr
  by_cases hb:n<=1000000000000000
  case neg=>
   rw [if_neg hb] at hrr
   rw [if_neg (by decide),if_neg hb] at hff
   rw [hrr] at HRD
   have HE:=Lib.hid hff
   clear hg hin hrr hff hn hb hl
   go_wp2_with fail
   refine (HG.out _).mono ?_
   rintro e w3 ⟨rfl,rfl⟩
   go_wp2_with fail
   refine (HRD.out _).mono ?_
   rintro e w4 ⟨rfl,hb4⟩
   have hX4:=heap_below hX hb4
   have hB4:=below_then hb4 hb0 hb0.size
   clear g0 g1 g2 g3 g4 hX hb0 hb4
   obtain ⟨g0,g1,g2,g3,g4⟩:=box2 hX4
   have hXe:(((w4.setCell ⟨w.heap.size,0,none⟩ (.int .i64 0)).setCell ⟨w.heap.size,1,none⟩ (.int .i64 0)).alloc (.cells #[.int .i64 0,.int .i64 0] 31)).heap[w.heap.size]?=some (.cells #[.int .i64 0,.int .i64 0] 31 (0,0)):=by
    have:=heap_old (heap_set (heap_set hX4 0 (.int .i64 0)) 1 (.int .i64 0)) (.cells #[.int .i64 0,.int .i64 0] 31)
    simpa using this
   obtain ⟨e0,e1,-,-,-⟩:=box2 hXe
   go_wp2
   exact bodyPost_ret (v:=.tuple #[.agg #[.int .i64 0,.int .i64 0],.int .i64 1]) (by simp [results,Tryz.results159,go_sem,g0,g1,e0,e1]) rfl (RetD.of (r:=(0,0,1)) ⟨rfl,by go_grown⟩ HE.out.symm)
  ·rw [if_pos hb] at hrr
   rw [if_neg (by decide),if_pos hb] at hff
   rw [hrr] at HRD
   have HE:=Lib.hid hff
   clear hg hin hrr hff hn hl
   go_wp2_with fail
   refine (HG.out _).mono ?_
   rintro e w3 ⟨rfl,rfl⟩
   go_wp2_with fail
   refine (HRD.out _).mono ?_
   rintro e w4 ⟨rfl,hb4⟩
   have hX4:=heap_below hX hb4
   have hB4:=below_then hb4 hb0 hb0.size
   clear g0 g1 g2 g3 g4 hX hb0 hb4
   obtain ⟨g0,g1,g2,g3,g4⟩:=box2 hX4
   cases neg with
   | true=>
    have hXe:(((w4.setCell ⟨w.heap.size,0,none⟩ (.int .i64 (-(n:Int)))).setCell ⟨w.heap.size,1,none⟩ (.int .i64 a)).alloc (.cells #[.int .i64 (-(n:Int)),.int .i64 a] 31)).heap[w.heap.size]?=some (.cells #[.int .i64 (-(n:Int)),.int .i64 a] 31 (0,0)):=by
     have:=heap_old (heap_set (heap_set hX4 0 (.int .i64 (-(n:Int)))) 1 (.int .i64 a)) (.cells #[.int .i64 (-(n:Int)),.int .i64 a] 31)
     simpa using this
    obtain ⟨e0,e1,-,-,-⟩:=box2 hXe
    go_wp2_with fail
    exact bodyPost_ret (v:=.tuple #[.agg #[.int .i64 (-(n:Int)),.int .i64 a],.int .i64 0]) (by simp [results,Tryz.results159,go_sem,g0,g1,e0,e1]) rfl (RetD.of (r:=((-(n:Int)),a,0)) ⟨rfl,by go_grown⟩ (by rw [HE.out];rfl))
   | false=>
    have hXe:(((w4.setCell ⟨w.heap.size,0,none⟩ (.int .i64 (n:Int))).setCell ⟨w.heap.size,1,none⟩ (.int .i64 a)).alloc (.cells #[.int .i64 (n:Int),.int .i64 a] 31)).heap[w.heap.size]?=some (.cells #[.int .i64 (n:Int),.int .i64 a] 31 (0,0)):=by
     have:=heap_old (heap_set (heap_set hX4 0 (.int .i64 (n:Int))) 1 (.int .i64 a)) (.cells #[.int .i64 (n:Int),.int .i64 a] 31)
     simpa using this
    obtain ⟨e0,e1,-,-,-⟩:=box2 hXe
    go_wp2_with fail
    exact bodyPost_ret (v:=.tuple #[.agg #[.int .i64 (n:Int),.int .i64 a],.int .i64 0]) (by simp [results,Tryz.results159,go_sem,g0,g1,e0,e1]) rfl (RetD.of (r:=((n:Int),a,0)) ⟨rfl,by go_grown⟩ (by rw [HE.out];rfl))
end Go.Proofs.YtbfbgappinilmaaGreatDoor
namespace Go.Proofs.YtbfbgappinilmaaGreatDoor
open Go.RowKit Limb Work Nmb
set_option linter.unusedVariables false
set_option linter.unusedSimpArgs false
end Go.Proofs.YtbfbgappinilmaaGreatDoor
namespace Go.Proofs.YtbfbgappinilmaaGreatDoor
open Go.RowKit Limb Work Nmb
set_option linter.unusedVariables false
set_option linter.unusedSimpArgs false
set_option linter.unnecessarySimpa false
end Go.Proofs.YtbfbgappinilmaaGreatDoor
namespace Go.Proofs.YtbfbgappinilmaaGreatDoor
open Go.RowKit
section
variable {P:Program} {ops:Array Oper} {Q:Exit->Act->World->Prop} {md:Region.Mode} {T:World->Prop} {k:Nat}
def Till (P:Program) (md:Region.Mode) (ops:Array Oper) (Q:Exit->Act->World->Prop) (T:World->Prop) (k:Nat):Nat->Array Bool->Act->World->Prop
 | 0,ls,a,w=>Region.ready md ops ls=[]/\Q .normal a w
 | n+1,ls,a,w=>(Region.ready md ops ls=[]->Q .normal a w) /\
   ∀ i∈Region.ready md ops ls,wpOp P ops Q i (fun a' w'=>((ls.setIfInBounds i true).getD k true=false->T w')/\Till P md ops Q T k n (ls.setIfInBounds i true) a' w') a w
theorem Till.any:∀ (n:Nat) (ls:Array Bool) (a:Act) (w:World),Till P md ops Q T k n ls a w->wpAny P md ops Q n ls a w
 | 0,_,_,_,h=>h
 | n+1,_,_,_,h=>⟨h.1,fun i hi=>wpOp_mono (fun a' w' h'=>Till.any n _ a' w' h'.2) (h.2 i hi)⟩
def Closed (md:Region.Mode) (ops:Array Oper) (ls:Array Bool):Prop :=
 ∀ (j:Nat) (oj:Oper),ops[j]?=some oj->ls.getD j false=true->∀ e∈oj.after,Region.binds md e=true->ls.getD e.on false=true
def closedB (md:Region.Mode) (ops:Array Oper) (ls:Array Bool):Bool :=
 (List.range ops.size).all fun j=>!(ls.getD j false)||match ops[j]? with
  | some oj=>oj.after.all fun e=>!(Region.binds md e)||ls.getD e.on false
  | none=>true
theorem closed_of {ls:Array Bool} (h:closedB md ops ls=true):Closed md ops ls:=by
 intro j oj ho hl e he hb
 unfold closedB at h
 rw [List.all_eq_true] at h
 have hj:j<ops.size:=by
  rcases Nat.lt_or_ge j ops.size with h | h
  ·exact h
  ·rw [Array.getElem?_eq_none h] at ho;cases ho
 have h1:=h j (List.mem_range.2 hj)
 rw [hl,ho] at h1
 simp only [Bool.not_true,Bool.false_or] at h1
 have h2:=Array.all_eq_true_iff_forall_mem.1 h1 e he
 rw [hb] at h2
 simpa using h2
theorem Closed.set {ls:Array Bool} (h:Closed md ops ls) {j:Nat} (hj:j∈Region.ready md ops ls):Closed md ops (ls.setIfInBounds j true):=by
 intro m om ho hl e he hb
 by_cases hm:j=m
 ·subst hm
  obtain ⟨_,o',ho',hall⟩:=mem_ready.1 hj
  rw [ho] at ho'
  injection ho' with ho'
  subst ho'
  exact getD_set_true (hall e he hb)
 ·rw [getD_set_ne false hm] at hl
  exact getD_set_true (h m om ho hl e he hb)
def waitsBy (md:Region.Mode) (ops:Array Oper):Nat->List Nat->Nat->Bool
 | i,[],k=>Region.waitsFor md ops k i
 | i,j :: l,k=>Region.waitsFor md ops j i&&waitsBy md ops j l k
theorem Closed.back {ls:Array Bool} (h:Closed md ops ls):∀ (l:List Nat) (i:Nat),waitsBy md ops i l k=true->k∈Region.ready md ops ls->ls.getD i false=true
 | [],i,hw,hk=>by
  obtain ⟨oj,ho,e,he,hb,hon⟩:=Region.waitsFor_spec hw
  obtain ⟨_,o',ho',hall⟩:=mem_ready.1 hk
  rw [ho] at ho'
  injection ho' with ho'
  subst ho'
  exact hon ▸ hall e he hb
 | j :: l,i,hw,hk=>by
  unfold waitsBy at hw
  rw [Bool.and_eq_true] at hw
  obtain ⟨oj,ho,e,he,hb,hon⟩:=Region.waitsFor_spec hw.1
  exact hon ▸ h j oj ho (h.back l j hw.2 hk) e he hb
theorem not_listed {i:Nat} {ls:Array Bool} (hi:i∈Region.ready md ops ls) (h1:ls.getD i false=true):False:=by
 have h0:=(mem_ready.1 hi).1
 rcases Nat.lt_or_ge i ls.size with h | h
 ·simp [h] at h0 h1
  rw [h0] at h1
  cases h1
 ·simp [Array.getElem?_eq_none h] at h1
theorem Till.first {i:Nat} {oi:Oper} {v:Value} (hi:ops[i]?=some oi) (hsel:∀ (j:Nat) (o:Oper) cs b,ops[j]?=some o->o.op≠.select cs b)
  (hQ:∀ c a w,Q (.panic c) (a.put oi.dst v) w->Q (.panic c) a w) {l:List Nat} (hk:waitsBy md ops i l k=true) (hki:k≠i) :
  ∀ (n:Nat) (ls:Array Bool) (a:Act) (w:World),
   (∀ j oj,ops[j]?=some oj->j≠i->ls.getD j true=false->(∀ e∈oj.after,Region.binds md e=true->e.on≠i)->oi.apart ops oj=true) ->
   i∈Region.ready md ops ls->Closed md ops ls->ls.getD k true=false->YieldsIf P ops T oi v a->T w ->
   Till P md ops Q T k n (ls.setIfInBounds i true) (a.put oi.dst v) w->Till P md ops Q T k (n+1) ls a w:=by
 intro n
 induction n with
 | zero=>
  intro ls a w _ hr _ _ hy hT H
  refine ⟨fun h=>(by rw [h] at hr;cases hr),fun j hj=>?_⟩
  by_cases hji:j=i
  ·subst hji
   exact hy.wpOp hi hT ⟨fun _=>hT,H⟩
  ·have h:=ready_mono hj hji
   rw [H.1] at h
   cases h
 | succ n ih=>
  intro ls a w hfree hr hcl hkl hy hT H
  refine ⟨fun h=>(by rw [h] at hr;cases hr),fun j hj=>?_⟩
  by_cases hji:j=i
  ·subst hji
   exact hy.wpOp hi hT ⟨fun _=>hT,H⟩
  ·have hjk:j≠k:=fun e=>not_listed hr (hcl.back l i hk (e ▸ hj))
   obtain ⟨hun,oj,ho,hall⟩:=mem_ready.1 hj
   have hno:∀ e∈oj.after,Region.binds md e=true->e.on≠i:=fun e he hb hon=>
    not_listed hr (hon ▸ hall e he hb)
   have h2:=wpOp_putIf ho (hfree j oj ho hji hun hno) (fun cs b=>hsel i oi cs b hi) (fun cs b=>hsel j oj cs b ho) hQ hy (H.2 j (ready_mono hj hji))
   refine wpOp_mono (fun a' w' h3=>?_) h2
   obtain ⟨hy',hT',hrest⟩:=h3
   have hTw:T w':=hT' (by rw [getD_set_ne true hjk,getD_set_ne true (Ne.symm hki)];exact hkl)
   refine ⟨fun _=>hTw,ih _ a' w' ?_ (ready_mono hr (Ne.symm hji)) (hcl.set hj) (by rw [getD_set_ne true hjk];exact hkl) hy' hTw ?_⟩
   ·intro m om hm hmi hmu hmn
    refine hfree m om hm hmi ?_ hmn
    by_cases hjm:j=m
    ·subst hjm;exact hun
    ·rwa [getD_set_ne true hjm] at hmu
   ·rw [Array.setIfInBounds_comm _ _ hji]
    exact hrest
theorem Till.take {i:Nat} {oi:Oper} {v:Value} {n:Nat} {ls:Array Bool} {a:Act} {w:World} (hi:ops[i]?=some oi)
  (hs:Region.noSelect ops=true) (hf:Region.free md ops ls i=true) (hr:(Region.ready md ops ls).contains i=true) (l:List Nat) (hk:waitsBy md ops i l k=true) (hki:k≠i) (hcl:closedB md ops ls=true) (hkl:ls.getD k true=false)
  (hQ:∀ c a w,Q (.panic c) (a.put oi.dst v) w->Q (.panic c) a w) (hT:T w) (hy:YieldsIf P ops T oi v a)
  (h:Till P md ops Q T k n (ls.setIfInBounds i true) (a.put oi.dst v) w):Till P md ops Q T k (n+1) ls a w :=
 Till.first hi (Region.noSelect_spec hs) hQ hk hki n ls a w (Region.free_spec hi hf) (by simpa using hr) (closed_of hcl) hkl hy hT h
theorem Till.a:type_of% @List.setIfInBounds_toArray:=@List.setIfInBounds_toArray
theorem Till.b:type_of% @List.set_cons_zero:=@List.set_cons_zero
theorem Till.c:type_of% @List.set_cons_succ:=@List.set_cons_succ
theorem Till.tk {i:Nat} {oi:Oper} {v:Value} {n:Nat} {ls:Array Bool} {a:Act} {w:World} (hi:ops[i]?=some oi) (l:List Nat) (hT:T w) (hy:YieldsIf P ops T oi v a)
  (h:Till P md ops Q T k n (ls.setIfInBounds i true) (a.put oi.dst v) w) (hs:Region.noSelect ops=true:=by kernel_rfl) (hf:Region.free md ops ls i=true:=by kernel_rfl) (hr:(Region.ready md ops ls).contains i=true:=by kernel_rfl) (hk:waitsBy md ops i l k=true:=by kernel_rfl) (hki:k≠i:=by decide) (hcl:closedB md ops ls=true:=by kernel_rfl) (hkl:ls.getD k true=false:=by kernel_rfl)
  (hQ:∀ c a w,Q (.panic c) (a.put oi.dst v) w->Q (.panic c) a w:=by exact fun _ _ _ h=>h):Till P md ops Q T k (n+1) ls a w :=
 Till.take hi hs hf hr l hk hki hcl hkl hQ hT hy h
theorem Till.step {i:Nat} {o:Oper} {n:Nat} {ls:Array Bool} {a:Act} {w:World} (hr:Region.ready md ops ls=[i]) (ho:ops[i]?=some o)
  (h:∀ K':Act->World->Prop,Hid (∀ a w,((ls.setIfInBounds i true).getD k true=false->T w)->Till P md ops Q T k n (ls.setIfInBounds i true) a w->K' a w) ->
   if Region.wanted o (yielded ops a.tmps)=true then Oper.wp P o a w K' Q else K' (a.put o.dst undef) w):Till P md ops Q T k (n+1) ls a w :=
 ⟨fun h0=>(by rw [hr] at h0;cases h0),fun j hj=>by
  rw [hr] at hj
  obtain rfl:=List.mem_singleton.1 hj
  exact wpOp_step ho fun K' hK=>h K' fun a w h1 h2=>hK a w ⟨h1,h2⟩⟩
theorem Till.done {ls:Array Bool} {a:Act} {w:World} (hr:Region.ready md ops ls=[]) (h:Q .normal a w):∀ n,Till P md ops Q T k n ls a w
 | 0=>⟨hr,h⟩
 | _+1=>⟨fun _=>h,by rw [hr];intro i hi;cases hi⟩
theorem region_till {id:Nat} {a:Act} {w:World} (k:Nat) (T:World->Prop) (hm:P.follows .mixedOrders=true)
  (h:Till P .any ops Q T k ops.size (Array.replicate ops.size false) a w.drew):(Code.region id ops true).wp P Q a w :=
 wp_region_any hm (Till.any _ _ _ _ h)
end
end Go.Proofs.YtbfbgappinilmaaGreatDoor
namespace Go.Proofs.YtbfbgappinilmaaGreatDoor
open Go.RowKit Limb Nmb Work
set_option linter.unusedVariables false
set_option linter.unusedSimpArgs false
theorem vitoas_c (v:Int) (w:World) (h : -9223372036854775808<=v/\v<=9223372036854775807) (ht:Tab w) :
  Calls Tryz.prog 19 #[.int .i64 v] w fun e w'=>e=.returned (.string ⟨(Lib.itoa v).toArray⟩)/\Below w.heap.size w w':=by
 refine (Tryz.strconv_Itoa v h.1 h.2 w ht).mono ?_
 rintro e w' ⟨rfl,k,os,rfl⟩
 exact ⟨rfl,Lib.below_grow _ w (Nat.le_refl _) k os⟩
end Go.Proofs.YtbfbgappinilmaaGreatDoor
namespace Go.Proofs.YtbfbgappinilmaaGreatDoor
open Go.RowKit Limb
set_option linter.unusedVariables false
set_option linter.unusedSimpArgs false
end Go.Proofs.YtbfbgappinilmaaGreatDoor
namespace Go.Proofs.YtbfbgappinilmaaGreatDoor
open Go.RowKit Limb Nmb Work
set_option linter.unusedVariables false
set_option linter.unusedSimpArgs false
end Go.Proofs.YtbfbgappinilmaaGreatDoor
