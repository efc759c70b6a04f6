/- The walks of package amount's days: numbers out of digits, parts, the day of a week. -/
import Derived.Test.YtbfbgappinilmaaGreatDoorU2
import Derived.Test.YtbfbgappinilmaaGreatDoorK4
import Derived.Test.YtbfbgappinilmaaGreatDoorE2
import Derived.Test.YtbfbgappinilmaaGreatDoorShelf2
import Derived.Lib.AtoiErrMem
import Derived.Test.YtbfbgappinilmaaGreatDoorMem
import Derived.Test.YtbfbgappinilmaaGreatDoorShelf
import Derived.Lib.IndexLaws
import Derived.Lib.SlicesS
import Derived.Deep.LoopGhost
import Derived.WalkLawsBesides
-- merged: M1 M2
namespace Go.Proofs.YtbfbgappinilmaaGreatDoor
open Go.RowKit Limb Work Nmb
set_option linter.unusedVariables false
set_option linter.unusedSimpArgs false
theorem atoi_c (s:ByteArray) (w:World) (hs:s.size<=18) (hd:digs s.data.toList=true) :
  Calls Tryz.prog 192 #[.string s] w fun e w'=>e=.returned (.tuple #[.int .i64 ((dv s.data.toList:Nat):Int),.nilIface])/\Below w.heap.size w w':=by
 refine (Tryz.strconv_Atoi s _ hs (atoi_dv hd) w).mono ?_
 rintro e w' ⟨rfl,t,rfl⟩
 exact ⟨rfl,Lib.bytesWorld_below _ _ _⟩
def intV (l:List Int):List Value:=l.map (Value.int .i64)
theorem intV_snoc (l:List Int) (x:Int):intV l++[.int .i64 x]=intV (l++[x]):=by unfold intV;rw [List.map_append];rfl
theorem intV_at {l:List Int} {j:Nat} (h:j<l.length):(intV l)[j]?=some (.int .i64 l[j]):=by simp [intV,h]
def RetPrt (o:Option (List Int)) (w:World) (e:Ending) (w':World):Prop:=∃ v,e=.returned (.tuple #[v,.bool o.isSome])/\Below w.heap.size w w' /\
 ∀ xs,o=some xs->xs≠[]->∃ g c,v=.slice (some ⟨g,0,none⟩) xs.length c/\∀ j,(h:j<xs.length)->w'.cell? ⟨g,j,none⟩=some (.int .i64 xs[j])
theorem prt_none {w w':World} {v:Value} (hb:Below w.heap.size w w'):RetPrt none w (.returned (.tuple #[v,.bool false])) w':=⟨v,rfl,hb,fun xs h=>by cases h⟩
theorem ext_from (t:ByteArray) (n:Nat):(t.extract n t.size).data.toList=t.data.toList.drop n:=by rw [Lib.extract_to_end]
theorem ext_to (t:ByteArray) (n:Nat):(t.extract 0 n).data.toList=t.data.toList.take n:=by rw [Lib.extract_data];simp
def widths (ws:List Nat):Prop:=∀ j,(h:j<ws.length)->1<=ws[j]/\ws[j]<=4
set_option maxHeartbeats 2000000 in
set_option maxRecDepth 100000 in
theorem parts_c (s:ByteArray) (ws:List Nat) (g0 c0:Nat) (w:World) (hs:s.size<=9223372036854775807) (hw:widths ws) (hlen:ws.length<=10)
  (hg:g0<w.heap.size) (hc:∀ j,(h:j<ws.length)->w.cell? ⟨g0,j,none⟩=some (.int .i64 ((ws[j]:Nat):Int))) :
  Calls Tryz.prog 185 #[.string s,.slice (some ⟨g0,0,none⟩) ws.length c0] w (RetPrt (prt ws s.data.toList) w):=by
 obtain ⟨i0,hi⟩:∃ i,Tryz.prog.info? 3=some i:=⟨_,rfl⟩
 have hz0:i0.zero=some (.int .i64 0):=by obtain rfl:=Option.some.inj (hi.symm.trans rfl);rfl
 have hz1:i0.size=1:=by obtain rfl:=Option.some.inj (hi.symm.trans rfl);rfl
 have hz2:i0.bytes=8:=by obtain rfl:=Option.some.inj (hi.symm.trans rfl);rfl
 obtain ⟨O,hO⟩:∃ O,prt ws s.data.toList=O:=⟨_,rfl⟩
 have HO:=Lib.hid hO
 rw [hO]
 have HW:=Lib.hid hw
 have HC:=Lib.hid hc
 obtain ⟨N,hN⟩:∃ N,ws.length=N:=⟨_,rfl⟩
 have HN:=Lib.hid hN
 rw [hN] at hlen ⊢
 clear hO hw hc hN
 go_enter Tryz.func185,Tryz.ntmps185
 go_wp2
 go_loopw [0,6,13] (fun x b i wr=>∃ (k m c:Nat) (A:Option Addr) (t:ByteArray) (acc:List Int),k<=N/\i=.int .i64 k/\x=.string t/\b=.slice A m c/\m=k/\Hid (acc.length=m)/\t.size<=9223372036854775807 /\
   wr.ownsRow w.heap.size 3 1 (.slice A m c) m (intV acc)/\Below w.heap.size w wr/\Hid (O=(prt (ws.drop k) t.data.toList).map (fun r=>acc++r))) (fun _ _ i _=>N-(intOf i).toNat)
 case atStart=>exact ⟨0,0,0,none,s,[],Nat.zero_le _,rfl,rfl,rfl,rfl,Lib.hid rfl,hs,World.ownsRow_nil _ _ _ _,Below.refl _ _,Lib.hid (by rw [<- HO.out,List.drop_zero];simp)⟩
 case round=>
  obtain ⟨k,m,c,A,t,acc,hk,rfl,rfl,rfl,hmk,HM,ht,hown,hb,HR⟩:=hrel
  subst hmk
  have hz:=hb.size
  rcases Nat.lt_or_ge m N with hlt | hge
  ·have hlt':m<ws.length:=by rw [HN.out];exact hlt
   obtain ⟨n1,n2⟩:=HW.out m hlt'
   have hcell:=HC.out m hlt'
   have hdrop:ws.drop m=ws[m] :: ws.drop (m+1):=(List.getElem_cons_drop hlt').symm
   obtain ⟨n,hn⟩:∃ n,ws[m]=n:=⟨_,rfl⟩
   rw [hn] at n1 n2 hcell hdrop
   have hcell:=(hb.cell (p:=⟨g0,m,none⟩) hg).trans hcell
   have hR:=HR.out
   rw [hdrop] at hR
   clear hn hdrop
   by_cases hsz:t.size<n
   ·rw [prt_short (by rw [szL];exact hsz)] at hR
    have HR2:=Lib.hid (show O=none from hR)
    rw [HR2.out]
    clear hR
    go_wp2
    go_ret2
    exact prt_none hb
   have q:(n:Int)<=(t.size:Int):=by omega
   have hd:=isdigs_c (t.extract 0 n)
   have HD:=Lib.hid (fun w=>hd w (by rw [ByteArray.size_extract];omega))
   clear hd
   rw [ext_to] at HD
   cases hdg:digs (t.data.toList.take n) with
   | false=>
    rw [hdg] at HD
    rw [prt_bad hdg] at hR
    have HR2:=Lib.hid (show O=none from hR)
    rw [HR2.out]
    clear hR hdg
    go_wp2_with fail
    refine (HD.out _).mono ?_
    rintro e w2 ⟨rfl,rfl⟩
    go_wp2
    go_ret2
    exact prt_none hb
   | true=>
    rw [hdg] at HD
    have HA:=Lib.hid (fun w=>atoi_c (t.extract 0 n) w (by rw [ByteArray.size_extract];omega) (by rw [ext_to];exact hdg))
    rw [ext_to] at HA
    have hdv:=dv_lt4 hdg (by rw [List.length_take];omega)
    rw [prt_next (by rw [szL];omega) hdg] at hR
    obtain ⟨v,hv⟩:∃ v,dv (t.data.toList.take n)=v:=⟨_,rfl⟩
    rw [hv] at HA hR hdv
    have HR2:=Lib.hid (show O=(prt (ws.drop (m+1)) (t.extract n t.size).data.toList).map (fun r=>(acc++[(v:Int)])++r) by
     rw [hR,ext_from,Option.map_map]
     congr 1
     funext r
     simp)
    have hts:(t.extract n t.size).size<=9223372036854775807:=by rw [ByteArray.size_extract];omega
    have HTS:=Lib.hid hts
    have HOW:=Lib.hid hown
    have HM2:=Lib.hid (show (acc++[(v:Int)]).length=m+1 by rw [List.length_append,HM.out];rfl)
    clear hR hdg hv hown hts
    go_wp2_with fail
    refine (HD.out _).mono ?_
    rintro e w2 ⟨rfl,rfl⟩
    go_wp2_with fail
    refine (HA.out _).mono ?_
    rintro e w2 ⟨rfl,hb2⟩
    have hown2:=own_below HOW.out hb2
    have hbb:=below_then hb2 hb hz
    have hz2':=hbb.size
    have HOW2:=Lib.hid hown2
    clear hown2 hb2
    go_wp2_with (at_builtin;(with_reducible refine wpList_push_own rfl _ _ 221 rfl w.heap.size 3 i0 (.int .i64 0) 8 Tryz.underlying221 hi hz0 hz1 hz2 rfl (.slice A m c) m (intV acc) rfl HOW2.out (.int .i64 (v:Int)) rfl rfl (by unfold maxLen;omega) (by omega) hz2' ?_);intro A3 c3 w3 hown3 hg3)
    rw [intV_snoc] at hown3
    have hb3:=hbb.grown hg3 hz2' (fun k hk=>(HOW2.out.lt k hk).1)
    have HOW3:=Lib.hid hown3
    clear hown3 hg3
    go_wp2
    go_roundw
    case rel=>exact ⟨m+1,m+1,c3,A3,_,acc++[(v:Int)],by omega,by go_num,rfl,rfl,rfl,HM2,HTS.out,HOW3.out,hb3,HR2⟩
    case measure=>simp [intOf];omega
  ·obtain rfl:m=N:=by omega
   have hR:=HR.out
   rw [List.drop_eq_nil_of_le (by rw [HN.out];exact Nat.le_refl _)] at hR
   have HOW:=Lib.hid hown
   have HB:=Lib.hid hb
   clear hown hb
   by_cases he:t.data.toList=[]
   ·have hR2:=Lib.hid (show O=some acc by rw [hR,he];simp [prt])
    have ht0:t=⟨#[]⟩:=by apply ByteArray.ext;rw [<- Array.toList_inj];exact he
    subst ht0
    clear he hR
    go_wp2
    go_ret2
    rw [hR2.out]
    refine ⟨_,rfl,HB.out,fun xs hxs hne=>?_⟩
    obtain rfl:=Option.some.inj hxs
    have hm:=HM.out
    have hpos:0<acc.length:=List.length_pos_iff.2 hne
    obtain ⟨g,rfl⟩:∃ g,A=some ⟨g,0,none⟩:=by
     rcases HOW.out.2 with h1 | ⟨g,cap,cur,hv,-⟩
     ·obtain ⟨h2,h3⟩:=h1
      injection h2 with e1 e2 e3
      omega
     ·injection hv with e1 e2 e3
      exact ⟨g,e1⟩
    have hcs:=HOW.out.cells (g:=g) rfl
    refine ⟨g,c,by rw [hm];rfl,fun j hj=>?_⟩
    have:=hcs j _ (intV_at hj)
    by_cases e:j=0
    ·subst e;exact this
    ·simpa [Addr.add,e] using this
   ·have hR2:=Lib.hid (show O=none by
     rw [hR,prt,if_neg (by rw [List.isEmpty_iff];exact he)];rfl)
    have e1:t.toList.isEmpty=false:=by rw [Lib.toList_data,Bool.eq_false_iff];intro h;rw [List.isEmpty_iff] at h;exact he h
    clear he hR
    go_wp2
    go_ret2
    rw [hR2.out]
    exact prt_none HB.out
def RetO (o:Option Int) (w:World) (e:Ending) (w':World):Prop:=∃ n:Int,e=.returned (.tuple #[.int .i64 n,.bool o.isSome])/\(∀ v,o=some v->n=v)/\Below w.heap.size w w'
theorem retO_none {o:Option Int} {n:Int} {w w':World} (ho:o=none) (hb:Below w.heap.size w w'):RetO o w (.returned (.tuple #[.int .i64 n,.bool false])) w':=by subst ho;exact ⟨n,rfl,(fun v h=>by cases h),hb⟩
set_option maxHeartbeats 1000000 in
set_option maxRecDepth 100000 in
theorem weekday3_c (y k d:Int) (w:World) (hy:0<=y/\y<=9999) (hk:0<=k/\k<=99) (hd:0<=d/\d<=9) :
  Calls Tryz.prog 187 #[.int .i64 y,.int .i64 k,.int .i64 d] w (RetO (weekO y k d) w):=by
 obtain ⟨hy0,hy9⟩:=hy
 obtain ⟨hk0,hk9⟩:=hk
 obtain ⟨hd0,hd9⟩:=hd
 by_cases h1:1<=y/\y<=9999
 case neg=>
  have HO:=Lib.hid (weekO_no (weekB_neg (y:=y) (w:=k) (d:=d) (by omega)))
  go_enter Tryz.func187,Tryz.ntmps187
  go_wp2_with fail
  refine (out_yes _ _ _ _ h1).mono ?_
  rintro e w1 ⟨rfl,rfl⟩
  go_wp2
  go_ret2
  exact retO_none HO.out (Below.refl _ _)
 by_cases h2:1<=d/\d<=7
 case neg=>
  have HO:=Lib.hid (weekO_no (weekB_neg (y:=y) (w:=k) (d:=d) (by omega)))
  go_enter Tryz.func187,Tryz.ntmps187
  go_wp2_with fail
  refine (out_no _ _ _ _ h1).mono ?_
  rintro e w1 ⟨rfl,rfl⟩
  go_wp2_with fail
  refine (out_yes _ _ _ _ h2).mono ?_
  rintro e w1 ⟨rfl,rfl⟩
  go_wp2
  go_ret2
  exact retO_none HO.out (Below.refl _ _)
 have hB:=bef_bd (y:=y) (by omega) (by omega)
 obtain ⟨W,hW⟩:∃ W,weekN y k d=W:=⟨_,rfl⟩
 have HW:=Lib.hid (show bef y+4-(bef y+4-1)%7+(k-1)*7+d-1=W from hW)
 have hm:0<=(bef y+4-1)%7/\(bef y+4-1)%7<=6:=by omega
 obtain ⟨m0,m6⟩:=hm
 cases h3:dayB W with
 | false=>
  have HO:=Lib.hid (weekO_no (y:=y) (w:=k) (d:=d) (decide_eq_false (fun h=>by rw [hW] at h;have:=dayB_no h3;exact this h.2.2.1)))
  have H3:=Lib.hid h3
  clear h3 hW
  go_enter Tryz.func187,Tryz.ntmps187
  go_wp2_with fail
  refine (out_no _ _ _ _ h1).mono ?_
  rintro e w1 ⟨rfl,rfl⟩
  go_wp2_with fail
  refine (out_no _ _ _ _ h2).mono ?_
  rintro e w1 ⟨rfl,rfl⟩
  go_wp2_with fail
  refine (before_c _ _ (by omega)).mono ?_
  rintro e w1 ⟨rfl,rfl⟩
  go_wp2_with fail
  refine (weekday_c _ _ (by omega)).mono ?_
  rintro e w1 ⟨rfl,rfl⟩
  go_wp2_with fail
  rw [HW.out]
  refine (isday_c _ _).mono ?_
  rw [H3.out]
  rintro e w1 ⟨rfl,rfl⟩
  go_wp2
  go_ret2
  exact retO_none HO.out (Below.refl _ _)
 | true=>
  have h4:=dayB_yes h3
  obtain ⟨z,zm,zd,hZ⟩:=thu_ex h4.1 h4.2
  obtain ⟨⟨z1,z2⟩,-,-,-,b1,b2⟩:=hZ.facts
  have HZ:=Lib.hid hZ
  have H3:=Lib.hid h3
  have hO:(z==y)=true->(wk W z==k)=true->weekO y k d=some W:=by
   intro e1 e2
   have e1:=beq_iff_eq.1 e1
   have e2:=beq_iff_eq.1 e2
   subst e1
   rw [weekO_yes (decide_eq_true ⟨h1,h2,by rw [hW];exact h4,by rw [hW];exact b1,by rw [hW];exact b2,by rw [hW];exact e2⟩),hW]
  have hN:(z==y)=false∨(wk W z==k)=false->weekO y k d=none:=by
   intro e
   refine weekO_no (decide_eq_false (fun h=>?_))
   rw [hW] at h
   have:=year_unique b1 b2 h.2.2.2.1 h.2.2.2.2.1
   subst this
   rcases e with e | e
   ·exact (beq_eq_false_iff_ne.1 e) rfl
   ·exact (beq_eq_false_iff_ne.1 e) h.2.2.2.2.2
  have HO:=Lib.hid hO
  have HNO:=Lib.hid hN
  obtain ⟨V,hV⟩:∃ V,wk W z=V:=⟨_,rfl⟩
  have hwk:=weekof_c W z zm zd
  have HWK:=Lib.hid (fun w=>hwk w h4.1 h4.2 HZ.out)
  rw [hV] at HWK HO HNO
  clear hO hN hwk hW hZ h3 hV b1 b2
  cases e1:(z==y) with
  | false=>
   rw [e1] at HNO
   go_enter Tryz.func187,Tryz.ntmps187
   go_wp2_with fail
   refine (out_no _ _ _ _ h1).mono ?_
   rintro e w1 ⟨rfl,rfl⟩
   go_wp2_with fail
   refine (out_no _ _ _ _ h2).mono ?_
   rintro e w1 ⟨rfl,rfl⟩
   go_wp2_with fail
   refine (before_c _ _ (by omega)).mono ?_
   rintro e w1 ⟨rfl,rfl⟩
   go_wp2_with fail
   refine (weekday_c _ _ (by omega)).mono ?_
   rintro e w1 ⟨rfl,rfl⟩
   go_wp2_with fail
   rw [HW.out]
   refine (isday_c _ _).mono ?_
   rw [H3.out]
   rintro e w1 ⟨rfl,rfl⟩
   go_wp2_with fail
   refine (HWK.out _).mono ?_
   rintro e w1 ⟨rfl,hb1⟩
   go_wp2
   go_ret2
   exact retO_none (HNO.out (.inl (by trivial))) hb1
  | true=>
   rw [e1] at HO HNO
   cases e2:(V==k) with
   | false=>
    rw [e2] at HNO
    go_enter Tryz.func187,Tryz.ntmps187
    go_wp2_with fail
    refine (out_no _ _ _ _ h1).mono ?_
    rintro e w1 ⟨rfl,rfl⟩
    go_wp2_with fail
    refine (out_no _ _ _ _ h2).mono ?_
    rintro e w1 ⟨rfl,rfl⟩
    go_wp2_with fail
    refine (before_c _ _ (by omega)).mono ?_
    rintro e w1 ⟨rfl,rfl⟩
    go_wp2_with fail
    refine (weekday_c _ _ (by omega)).mono ?_
    rintro e w1 ⟨rfl,rfl⟩
    go_wp2_with fail
    rw [HW.out]
    refine (isday_c _ _).mono ?_
    rw [H3.out]
    rintro e w1 ⟨rfl,rfl⟩
    go_wp2_with fail
    refine (HWK.out _).mono ?_
    rintro e w1 ⟨rfl,hb1⟩
    go_wp2
    go_ret2
    exact retO_none (HNO.out (.inr (by trivial))) hb1
   | true=>
    rw [e2] at HO
    have HOO:=Lib.hid (HO.out rfl rfl)
    go_enter Tryz.func187,Tryz.ntmps187
    go_wp2_with fail
    refine (out_no _ _ _ _ h1).mono ?_
    rintro e w1 ⟨rfl,rfl⟩
    go_wp2_with fail
    refine (out_no _ _ _ _ h2).mono ?_
    rintro e w1 ⟨rfl,rfl⟩
    go_wp2_with fail
    refine (before_c _ _ (by omega)).mono ?_
    rintro e w1 ⟨rfl,rfl⟩
    go_wp2_with fail
    refine (weekday_c _ _ (by omega)).mono ?_
    rintro e w1 ⟨rfl,rfl⟩
    go_wp2_with fail
    rw [HW.out]
    refine (isday_c _ _).mono ?_
    rw [H3.out]
    rintro e w1 ⟨rfl,rfl⟩
    go_wp2_with fail
    refine (HWK.out _).mono ?_
    rintro e w1 ⟨rfl,hb1⟩
    go_wp2
    go_ret2
    rw [HOO.out]
    exact ⟨W,rfl,fun v h=>Option.some.inj h,hb1⟩
end Go.Proofs.YtbfbgappinilmaaGreatDoor
namespace Go.Proofs.YtbfbgappinilmaaGreatDoor
open Go.RowKit Limb
set_option linter.unusedVariables false
set_option linter.unusedSimpArgs false
def strike (l:List UInt8) (c:UInt8):List UInt8:=l.filter (fun x=>x !=c)
theorem strike_none {c:UInt8} : ∀ {l:List UInt8},l.count c=0->strike l c=l:=by
 intro l h
 unfold strike
 rw [List.filter_eq_self]
 intro x hx
 have:c∉l:=List.count_eq_zero.1 h
 exact bne_iff_ne.2 (fun e=>this (e ▸ hx))
theorem strike_split {c:UInt8} : ∀ {l:List UInt8} {n:Nat},l.count c=n+1->∃ k:Nat,Lib.indexByte l c=(k:Int)/\k<l.length/\strike l c=l.take k++strike (l.drop (k+1)) c/\(l.drop (k+1)).count c=n
 | [],n,h=>by simp at h
 | b :: l,n,h=>by
  by_cases e:b=c
  ·subst e
   refine ⟨0,by simp [Lib.indexByte],by simp,?_,?_⟩
   ·unfold strike;simp
   ·simpa using h
  ·rw [List.count_cons_of_ne e] at h
   obtain ⟨k,h1,h2,h3,h4⟩:=strike_split h
   have eb:(b==c)=false:=beq_eq_false_iff_ne.2 e
   refine ⟨k+1,?_,by simp;omega,?_,by simpa using h4⟩
   ·rw [Lib.indexByte,eb,h1]
    rw [if_neg (by simp),if_neg (by simp<;>omega)];rfl
   ·have:strike (b :: l) c=b :: strike l c:=by unfold strike;rw [List.filter_cons];simp [bne,eb]
    rw [this,h3];rfl
theorem bgrow_c (b n:Nat) (w:World) (hbk:w.heap[b]?=some (.cells #[.pointer none,.slice none 0 0] 95 (0,0))) (B:Nat) (hB:B<=b) (hBw:B<=w.heap.size) (hn:n<=281474976710656) :
  Calls Tryz.prog 115 #[.pointer (some ⟨b,0,none⟩),.int .i64 n] w fun e w'=>e=.returned (.tuple #[])/\Lib.IsBuilder 95 5 B b (Lib.byteCells []) w'/\Below B w w' :=
 (Any.Builder_Grow_fresh { Tryz.lays154 with } Tryz.Builder_Extra_154 B b n w hB hbk hBw hn).mono fun _ _ h=>⟨h.1,.inr h.2.1,h.2.2⟩
theorem bwrite_c (B b:Nat) (l:List UInt8) (s:ByteArray) (w:World) (h:Lib.IsBuilder 95 5 B b (Lib.byteCells l) w) (hlen:l.length+s.size<=140737488355328) (hBw:B<=w.heap.size) :
  Calls Tryz.prog 43 #[.pointer (some ⟨b,0,none⟩),.string s] w fun e w'=>e=.returned (.tuple #[.int .i64 s.size,.nilIface])/\Lib.IsBuilder 95 5 B b (Lib.byteCells (l++s.data.toList)) w'/\Below B w w' :=
 (Any.Builder_WriteString { Tryz.lays154 with } Tryz.Builder_Extra_154 B b (Lib.byteCells l) s w h (by rw [Lib.byteCells_length];exact hlen) hBw).mono fun _ _ h=>⟨h.1,.inr (by rw [Lib.byteCells_append];exact h.2.1),h.2.2⟩
theorem bstring_c (B b:Nat) (l:List UInt8) (w:World) (h:Lib.IsBuilder 95 5 B b (Lib.byteCells l) w) (hBw:B<=w.heap.size) :
  Calls Tryz.prog 45 #[.pointer (some ⟨b,0,none⟩)] w fun e w'=>e=.returned (.string ⟨l.toArray⟩)/\Below B w w' :=
 Any.Builder_String_any { Tryz.lays154 with } Tryz.Builder_Extra_154 B b l w h hBw
theorem ext_mid (t:ByteArray) (a b:Nat):(t.extract a b).data.toList=(t.data.toList.drop a).take (b-a):=by rw [Lib.extract_data]
def RetT (l:List UInt8) (w:World) (e:Ending) (w':World):Prop:=e=.returned (.string ⟨l.toArray⟩)/\Below w.heap.size w w'
set_option maxHeartbeats 2000000 in
set_option maxRecDepth 100000 in
theorem replace_c (s:ByteArray) (c:UInt8) (w:World) (hs:s.size<=140737488355328) :
  Calls Tryz.prog 155 #[.string s,.string ⟨#[c]⟩,.string ⟨#[]⟩,.int .i64 (-1)] w (RetT (strike s.data.toList c) w):=by
 have HC:=Lib.hid (fun w=>(Tryz.strings_Count_one s c w).mono (fun _ _ h=>(⟨h.2.symm,h.1⟩:_/\_)))
 obtain ⟨K,hK⟩:∃ K,Lib.countByte s.data.toList c=K:=⟨_,rfl⟩
 have hKl:K<=s.size:=by rw [<- hK,<- (show s.data.toList.length=s.size by simp)];exact List.count_le_length
 rw [hK] at HC
 have hK':s.data.toList.count c=K:=hK
 have n1:((⟨#[c]⟩:ByteArray).toList==(⟨#[]⟩:ByteArray).toList)=false:=(Lib.bytes_beq_false_iff _ _).2 (fun e=>by have:=congrArg ByteArray.size e;exact absurd this (by show ¬ 1=0;decide))
 by_cases h0:K=0
 ·subst h0
  have HS:=Lib.hid (strike_none hK')
  clear hK hK'
  go_enter Tryz.func155,Tryz.ntmps155
  go_wp2_with fail
  refine (HC.out _).mono ?_
  rintro e w1 ⟨rfl,rfl⟩
  go_wp2
  go_ret
  exact ⟨by rw [HS.out];rfl,Below.refl _ _⟩
 have hk0:((K:Int)==0)=false:=beq_eq_false_iff_ne.2 (by omega)
 obtain ⟨O,hO⟩:∃ O,strike s.data.toList c=O:=⟨_,rfl⟩
 have HO:=Lib.hid hO
 have HK:=Lib.hid hK'
 rw [hO]
 have hga:(s.size:Int) + -(K:Int)=((s.size-K:Nat):Int):=by omega
 have HGA:=Lib.hid hga
 clear hK hK' hO hga
 go_enter Tryz.func155,Tryz.ntmps155
 go_wp2_with fail
 refine (HC.out _).mono ?_
 rintro e w1 ⟨rfl,rfl⟩
 go_wp2_with fail
 rw [HGA.out]
 refine (bgrow_c w.heap.size (s.size-K) _ (heap_alloc_new w _) w.heap.size (Nat.le_refl _) (by simp) (by omega)).mono ?_
 rintro e w2 ⟨rfl,hbu,hb2⟩
 have HBU:=Lib.hid hbu
 have HB2:=Lib.hid (((Below.refl w.heap.size w).alloc (Nat.le_refl _) _).trans hb2)
 clear hbu hb2
 go_wp2_with fail
 go_loopw [11,53] (fun x i wr=>∃ (k st:Nat) (acc:List UInt8),k<=K/\st<=s.size/\acc.length<=st/\x=.int .i64 st/\i=.int .i64 k/\Hid (Lib.IsBuilder 95 5 w.heap.size w.heap.size (Lib.byteCells acc) wr)/\Hid (Below w.heap.size w wr) /\
   Hid (O=acc++strike (s.data.toList.drop st) c)/\Hid ((s.data.toList.drop st).count c=K-k)) (fun _ i _=>K-(intOf i).toNat)
 case atStart=>exact ⟨0,0,[],Nat.zero_le _,Nat.zero_le _,Nat.le_refl _,rfl,rfl,HBU,HB2,Lib.hid (by rw [List.drop_zero,<- HO.out];rfl),Lib.hid (by rw [List.drop_zero,HK.out];rfl)⟩
 case round=>
  obtain ⟨k,st,acc,hk,hst,hac,rfl,rfl,HB,HW,HR,HQ⟩:=hrel
  have hz:=HW.out.size
  have q1:(st:Int)<=(s.size:Int):=by omega
  have hsd:s.data.toList.length=s.size:=by simp
  rcases Nat.lt_or_ge k K with hlt | hge
  ·obtain ⟨j,j1,j2,j3,j4⟩:=strike_split (c:=c) (l:=s.data.toList.drop st) (n:=K-k-1) (by rw [HQ.out];omega)
   rw [List.length_drop,hsd] at j2
   have HI:=Lib.hid (fun w=>(Tryz.strings_Index_one (s.extract st s.size) c w).mono (fun _ _ h=>(⟨h.2.symm,h.1⟩:_/\_)))
   rw [Lib.extract_to_end,j1] at HI
   have q2:(j:Int)<(s.size:Int)-(st:Int):=by omega
   have q5:(st:Int)+(j:Int)<=(s.size:Int):=by omega
   have q6:(st:Int)<=(st:Int)+(j:Int):=by omega
   have q8:(0:Int)<=(st:Int)+(j:Int):=by omega
   have q7:((st:Int)+(j:Int)).toNat=st+j:=by omega
   have hx1:(s.extract st (st+j)).size=j:=by rw [ByteArray.size_extract];omega
   have hl2:(acc++(s.extract st (st+j)).data.toList).length<=st+j:=by
    rw [List.length_append,show (s.extract st (st+j)).data.toList.length=(s.extract st (st+j)).size from Array.length_toList,hx1]
    omega
   obtain ⟨acc2,hacc2⟩:∃ a,acc++(s.extract st (st+j)).data.toList=a:=⟨_,rfl⟩
   have HR2:=Lib.hid (show O=acc2++strike (s.data.toList.drop (st+j+1)) c by
    rw [HR.out,j3,<- hacc2,ext_mid,List.drop_drop,List.append_assoc]
    rw [show st+j-st=j by omega,Nat.add_assoc])
   have HQ2:=Lib.hid (show (s.data.toList.drop (st+j+1)).count c=K-(k+1) by
    rw [Nat.add_assoc,<- List.drop_drop,j4];omega)
   rw [hacc2] at hl2
   have HA2:=Lib.hid hacc2
   have q3:acc.length+(s.extract st (st+j)).size<=140737488355328:=by omega
   have q4:acc2.length+(⟨#[]⟩:ByteArray).size<=140737488355328:=by show acc2.length+0<=_;omega
   have Q3:=Lib.hid q3;have Q4:=Lib.hid q4
   clear j1 j3 j4 hx1 hacc2 hsd q3 q4
   go_wp2_with fail
   refine (HI.out _).mono ?_
   rintro e w3 ⟨rfl,rfl⟩
   go_wp2_with fail
   refine (bwrite_c w.heap.size w.heap.size acc (s.extract st (st+j)) _ HB.out Q3.out hz).mono ?_
   rintro e w3 ⟨rfl,hbu3,hb3⟩
   rw [HA2.out] at hbu3
   have HB3:=Lib.hid hbu3
   have HW3:=Lib.hid (HW.out.trans hb3)
   clear hbu3 hb3
   go_wp2_with fail
   refine (bwrite_c w.heap.size w.heap.size acc2 ⟨#[]⟩ _ HB3.out Q4.out HW3.out.size).mono ?_
   rintro e w4 ⟨rfl,hbu4,hb4⟩
   have HB4:=Lib.hid (show Lib.IsBuilder 95 5 w.heap.size w.heap.size (Lib.byteCells acc2) w4 by have:=hbu4;rw [show (⟨#[]⟩:ByteArray).data.toList=[] from rfl,List.append_nil] at this;exact this)
   have HW4:=Lib.hid (HW3.out.trans hb4)
   clear hbu4 hb4
   go_wp2
   go_roundw
   case rel=>exact ⟨k+1,st+j+1,acc2,by omega,by omega,by omega,by go_num,by go_num,HB4,HW4,HR2,HQ2⟩
   case measure=>simp [intOf];omega
  ·obtain rfl:k=K:=by omega
   have h0:=strike_none (c:=c) (l:=s.data.toList.drop st) (by rw [HQ.out];omega)
   have HR2:=Lib.hid (show acc++(s.extract st s.size).data.toList=O by rw [HR.out,h0,Lib.extract_to_end])
   have q3:acc.length+(s.extract st s.size).size<=140737488355328:=by rw [ByteArray.size_extract];omega
   have Q3:=Lib.hid q3
   clear h0 q3 hsd
   go_wp2_with fail
   refine (bwrite_c w.heap.size w.heap.size acc (s.extract st s.size) _ HB.out Q3.out hz).mono ?_
   rintro e w3 ⟨rfl,hbu3,hb3⟩
   rw [HR2.out] at hbu3
   have HB3:=Lib.hid hbu3
   have HW3:=Lib.hid (HW.out.trans hb3)
   clear hbu3 hb3
   go_wp2_with fail
   refine (bstring_c w.heap.size w.heap.size O _ HB3.out HW3.out.size).mono ?_
   rintro e w4 ⟨rfl,hb4⟩
   have HW4:=Lib.hid (HW3.out.trans hb4)
   clear hb4
   go_wp2
   go_ret
   exact ⟨rfl,HW4.out⟩
theorem replaceAll_c (s:ByteArray) (c:UInt8) (w:World) (hs:s.size<=140737488355328) :
  Calls Tryz.prog 128 #[.string s,.string ⟨#[c]⟩,.string ⟨#[]⟩] w (RetT (strike s.data.toList c) w):=by
 have H:=Lib.hid (fun w=>replace_c s c w hs)
 go_enter Tryz.func128,Tryz.ntmps128
 go_wp2_with fail
 refine (H.out _).mono ?_
 rintro e w1 ⟨rfl,hb⟩
 go_wp2
 go_ret
 exact ⟨rfl,hb⟩
end Go.Proofs.YtbfbgappinilmaaGreatDoor
