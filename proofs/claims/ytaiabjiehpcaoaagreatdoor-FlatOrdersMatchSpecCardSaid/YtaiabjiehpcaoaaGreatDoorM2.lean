/- Least of the program, Normal of the reference, Text at numbers below 0. (Printed by genV1.py.) Plain facts of a right format: its marks, its columns, its tags. -/
import Derived.Test.YtaiabjiehpcaoaaGreatDoorA8
import Derived.Test.YtaiabjiehpcaoaaGreatDoorT3
import Derived.Deep.LoopGhost
import Derived.Test.YtaiabjiehpcaoaaGreatDoorU2
import Derived.Test.YtaiabjiehpcaoaaGreatDoorShelf
import Derived.Test.YtaiabjiehpcaoaaGreatDoorE1
import Derived.WalkLawsBesides
import Derived.Deep.QuietTactic
import Derived.BigQuiet
import Derived.Laws.IdiomStrings
import Derived.Test.YtaiabjiehpcaoaaGreatDoorShelf2
import Derived.Lib.AtoiErrMem
import Derived.Test.YtaiabjiehpcaoaaGreatDoorU1
import Derived.Lib.IndexLaws
import Derived.Lib.SlicesS
-- merged: V1 VF K2 K3 K4 M1 M2
set_option maxHeartbeats 2000000
set_option maxRecDepth 100000
namespace Go.Proofs.YtaiabjiehpcaoaaGreatDoor
open Go.RowKit Limb Nmb Work
set_option linter.unusedVariables false
set_option linter.unusedSimpArgs false
def RetLe (r:Int×Int) (w:World) (e:Ending) (w':World):Prop:=e=.returned (.agg #[.int .i64 r.1,.int .i64 r.2])/\Below w.heap.size w w'
theorem least_c (u:Int) (q:Nat) (w:World) (h:decB u (q:Int)=true) :
  Calls Tryz.prog 202 #[.agg #[.int .i64 u,.int .i64 (q:Int)]] w (RetLe (Qa5 u q) w):=by
 have HU:=Hd h
 clear h
 go_enter Tryz.func202,Tryz.ntmps202
 go_wp2_with fail
 have hN0:=Qad (Qac w (.cells #[.int .i64 u,.int .i64 (q:Int)] 70) rfl) (.cells #[.int .i64 0,.int .i64 0] 70)
 have hZ0:=Qac (w.alloc (.cells #[.int .i64 u,.int .i64 (q:Int)] 70)) (.cells #[.int .i64 0,.int .i64 0] 70) (g:=w.heap.size+1) (by simp)
 have hBN:Below w.heap.size w ((w.alloc (.cells #[.int .i64 u,.int .i64 (q:Int)] 70)).alloc (.cells #[.int .i64 0,.int .i64 0] 70)):=by go_grown
 obtain ⟨N,hN⟩:=ex_ (w.heap.size)
 have HBN:=Hd hBN
 rw [hN] at hN0 hZ0 ⊢
 have hNz:w.heap.size<=N:=by omega
 go_loopg [] q (fun k wr=>∃ v:Int,decB v (k:Int)=true/\Qa5 v k=Qa5 u q/\wr.heap[N]?=some (.cells #[.int .i64 v,.int .i64 (k:Int)] 70 (0,0))/\wr.heap[N+1]?=some (.cells #[.int .i64 0,.int .i64 0] 70 (0,0))/\Hid (Below w.heap.size w wr))
 case atStart=>exact ⟨u,HU.out,rfl,hN0,hZ0,HBN⟩
 case round=>
  clear hN0 hZ0 hBN HBN
  obtain ⟨v,hd,hl,hX,hZ,HB⟩:=hrel
  have HD:=Hd hd;have HL:=Hd hl
  obtain ⟨hv1,hv2,hv3,hv4⟩:=QaV hd
  obtain ⟨a0,a1,a2,a3,a5⟩:=box2 hX
  obtain ⟨b0,b1,b2,b3,b5⟩:=box2 hZ
  have hzz:w.heap.size<=wr.heap.size:=HB.out.size
  clear hd hl
  rcases gk with _ | k
  ·have HE:=Hd (show Qa5 u q=(v,0) from HL.out.symm)
   go_wp2
   have hz:((wr.setCell ⟨N+1,0,none⟩ (.int .i64 v)).setCell ⟨N+1,1,none⟩ (.int .i64 0)).heap[N+1]?=some (.cells #[.int .i64 v,.int .i64 0] 70 (0,0)):=Qae (Qae hZ 0 _) 1 _
   obtain ⟨r0,r1,-,-,-⟩:=box2 hz
   refine bodyPost_ret (v:=.agg #[.int .i64 v,.int .i64 0]) (by simp [results,Tryz.results202,go_sem,r0,r1]) rfl ⟨by rw [HE.out],(HB.out.setCell (p:=⟨N+1,0,none⟩) (by show w.heap.size<=N+1;omega) _).setCell (p:=⟨N+1,1,none⟩) (by show w.heap.size<=N+1;omega) _⟩
  ·by_cases h10:v.tmod 10=0
   ·have he:=tmod_ten.1 h10
    have hx1 : -1000000000000000<=v.tdiv 10/\v.tdiv 10<=1000000000000000:=by rw [tdiv_ten he];omega
    have HX1:=Hd (show Qa5 (v.tdiv 10) k=Qa5 u q by rw [<- HL.out,least_step he,tdiv_ten he])
    have HX2:=Hd (show decB (v.tdiv 10) (k:Int)=true from decB_mk (by rw [tdiv_ten he];omega))
    obtain ⟨x,hx⟩:=ex_ (v.tdiv 10)
    rw [hx] at HX1 HX2 hx1
    have hkk:((k+1:Nat):Int)-1=(k:Int):=by omega
    clear he
    go_wp2_with fail
    go_roundg k
    case measure=>omega
    case rel=>exact ⟨x,HX2.out,HX1.out,by have:=Qae (Qae hX 0 (.int .i64 x)) 1 (.int .i64 (k:Int));simpa using this,Qaf (Qaf hZ (p:=⟨N,0,none⟩) (by simp) _) (p:=⟨N,1,none⟩) (by simp) _,Hd ((HB.out.setCell (p:=⟨N,0,none⟩) hNz _).setCell (p:=⟨N,1,none⟩) hNz _)⟩
   ·have HE:=Hd (show Qa5 u q=(v,(k:Int)+1) by rw [<- HL.out,least_stop (fun hh=>h10 (tmod_ten.2 hh))];rfl)
    have h10':(v.tmod 10==0)=false:=beq_eq_false_iff_ne.2 h10
    clear h10
    go_wp2
    have hz:((wr.setCell ⟨N+1,0,none⟩ (.int .i64 v)).setCell ⟨N+1,1,none⟩ (.int .i64 ((k:Int)+1))).heap[N+1]?=some (.cells #[.int .i64 v,.int .i64 ((k:Int)+1)] 70 (0,0)):=Qae (Qae hZ 0 _) 1 _
    obtain ⟨r0,r1,-,-,-⟩:=box2 hz
    refine bodyPost_ret (v:=.agg #[.int .i64 v,.int .i64 ((k:Int)+1)]) (by simp [results,Tryz.results202,go_sem,r0,r1]) rfl ⟨by rw [HE.out],(HB.out.setCell (p:=⟨N+1,0,none⟩) (by show w.heap.size<=N+1;omega) _).setCell (p:=⟨N+1,1,none⟩) (by show w.heap.size<=N+1;omega) _⟩
theorem normal_c (u:Int) (q:Nat) (w:World) (h:decB u (q:Int)=true) :
  Calls Tryz.prog 106 #[.agg #[.int .i64 u,.int .i64 (q:Int)]] w (RetLe (Qa5 u q) w):=by
 have HU:=Hd h
 clear h
 go_enter Tryz.func106,Tryz.ntmps106
 go_wp2_with fail
 have hN0:=Qad (Qac w (.cells #[.int .i64 u,.int .i64 (q:Int)] 70) rfl) (.cells #[.int .i64 0,.int .i64 0] 70)
 have hZ0:=Qac (w.alloc (.cells #[.int .i64 u,.int .i64 (q:Int)] 70)) (.cells #[.int .i64 0,.int .i64 0] 70) (g:=w.heap.size+1) (by simp)
 have hBN:Below w.heap.size w ((w.alloc (.cells #[.int .i64 u,.int .i64 (q:Int)] 70)).alloc (.cells #[.int .i64 0,.int .i64 0] 70)):=by go_grown
 obtain ⟨N,hN⟩:=ex_ (w.heap.size)
 have HBN:=Hd hBN
 rw [hN] at hN0 hZ0 ⊢
 have hNz:w.heap.size<=N:=by omega
 go_loopg [] q (fun k wr=>∃ v:Int,decB v (k:Int)=true/\Qa5 v k=Qa5 u q/\wr.heap[N]?=some (.cells #[.int .i64 v,.int .i64 (k:Int)] 70 (0,0))/\wr.heap[N+1]?=some (.cells #[.int .i64 0,.int .i64 0] 70 (0,0))/\Hid (Below w.heap.size w wr))
 case atStart=>exact ⟨u,HU.out,rfl,hN0,hZ0,HBN⟩
 case round=>
  clear hN0 hZ0 hBN HBN
  obtain ⟨v,hd,hl,hX,hZ,HB⟩:=hrel
  have HD:=Hd hd;have HL:=Hd hl
  obtain ⟨hv1,hv2,hv3,hv4⟩:=QaV hd
  obtain ⟨a0,a1,a2,a3,a5⟩:=box2 hX
  obtain ⟨b0,b1,b2,b3,b5⟩:=box2 hZ
  have hzz:w.heap.size<=wr.heap.size:=HB.out.size
  clear hd hl
  rcases gk with _ | k
  ·have HE:=Hd (show Qa5 u q=(v,0) from HL.out.symm)
   go_wp2
   have hz:((wr.setCell ⟨N+1,0,none⟩ (.int .i64 v)).setCell ⟨N+1,1,none⟩ (.int .i64 0)).heap[N+1]?=some (.cells #[.int .i64 v,.int .i64 0] 70 (0,0)):=Qae (Qae hZ 0 _) 1 _
   obtain ⟨r0,r1,-,-,-⟩:=box2 hz
   refine bodyPost_ret (v:=.agg #[.int .i64 v,.int .i64 0]) (by simp [results,Tryz.results106,go_sem,r0,r1]) rfl ⟨by rw [HE.out],(HB.out.setCell (p:=⟨N+1,0,none⟩) (by show w.heap.size<=N+1;omega) _).setCell (p:=⟨N+1,1,none⟩) (by show w.heap.size<=N+1;omega) _⟩
  ·by_cases h10:v.tmod 10=0
   ·have he:=tmod_ten.1 h10
    have hx1 : -1000000000000000<=v.tdiv 10/\v.tdiv 10<=1000000000000000:=by rw [tdiv_ten he];omega
    have HX1:=Hd (show Qa5 (v.tdiv 10) k=Qa5 u q by rw [<- HL.out,least_step he,tdiv_ten he])
    have HX2:=Hd (show decB (v.tdiv 10) (k:Int)=true from decB_mk (by rw [tdiv_ten he];omega))
    obtain ⟨x,hx⟩:=ex_ (v.tdiv 10)
    rw [hx] at HX1 HX2 hx1
    have hkk:((k+1:Nat):Int)-1=(k:Int):=by omega
    clear he
    go_wp2_with fail
    go_roundg k
    case measure=>omega
    case rel=>exact ⟨x,HX2.out,HX1.out,by have:=Qae (Qae hX 0 (.int .i64 x)) 1 (.int .i64 (k:Int));simpa using this,Qaf (Qaf hZ (p:=⟨N,0,none⟩) (by simp) _) (p:=⟨N,1,none⟩) (by simp) _,Hd ((HB.out.setCell (p:=⟨N,0,none⟩) hNz _).setCell (p:=⟨N,1,none⟩) hNz _)⟩
   ·have HE:=Hd (show Qa5 u q=(v,(k:Int)+1) by rw [<- HL.out,least_stop (fun hh=>h10 (tmod_ten.2 hh))];rfl)
    have h10':(v.tmod 10==0)=false:=beq_eq_false_iff_ne.2 h10
    clear h10
    go_wp2
    have hz:((wr.setCell ⟨N+1,0,none⟩ (.int .i64 v)).setCell ⟨N+1,1,none⟩ (.int .i64 ((k:Int)+1))).heap[N+1]?=some (.cells #[.int .i64 v,.int .i64 ((k:Int)+1)] 70 (0,0)):=Qae (Qae hZ 0 _) 1 _
    obtain ⟨r0,r1,-,-,-⟩:=box2 hz
    refine bodyPost_ret (v:=.agg #[.int .i64 v,.int .i64 ((k:Int)+1)]) (by simp [results,Tryz.results106,go_sem,r0,r1]) rfl ⟨by rw [HE.out],(HB.out.setCell (p:=⟨N+1,0,none⟩) (by show w.heap.size<=N+1;omega) _).setCell (p:=⟨N+1,1,none⟩) (by show w.heap.size<=N+1;omega) _⟩
def RetTn (m:Nat) (w:World) (e:Ending) (w':World):Prop:=e=.returned (.string (bs (sdig (-(m:Int)))))/\Below w.heap.size w w'
theorem textn_c (w:World) {A:Option Addr} {n c:Nat} {m:Nat} (h:Big .u32 152 B32 w true A n c (-(m:Int))) (hm:m<10 ^ 200) (hp:0<m) :
  Calls Tryz.prog 137 #[.agg #[.bool true,.slice A n c]] w (RetTn m w):=by
 obtain ⟨l,hd,hnc,hcm,gl,nl,sl,hz⟩:=h
 have hv:val B32 l=m:=by unfold sg at hz;simp at hz;omega
 have hn:n<=200:=by rw [<- hd.1];exact Qa0 (neg:=true) nl (by unfold Small;rw [Qau,hv];exact hm)
 have h0:0<n:=by
  rcases Nat.eq_zero_or_pos n with h0 | h0
  ·subst h0
   have hl0:l=[]:=List.length_eq_zero_iff.1 hd.1
   subst hl0
   rw [val_nil] at hv
   omega
  ·exact h0
 ·have hmp:0<m:=hp
  obtain ⟨i0,hi,hz0,hz1,hz2⟩:=info_parts Tryz.info5
  have HM:=Hd hm;have HV:=Hd hv
  clear hm hv hz sl
  go_enter Tryz.func137,Tryz.ntmps137
  go_wp2_with fail
  refine (clone32_c l A n c _ (hd.alloc _) h0 hnc (by omega)).mono ?_
  rintro e w1 ⟨A1,c1,rfl,hown,hb⟩
  have hX:=Qaa (Qac w (.cells #[.bool true,.slice A n c] 106) rfl) hb
  have hB:Below w.heap.size w w1:=Qab hb (by go_grown) (by simp only [World.size_alloc];omega)
  have hown:=own_mono hown (base':=w.heap.size) (by simp only [World.size_alloc];omega)
  have hsz:=hB.size
  clear hb hd
  go_wp2_with fail
  go_loopg [3,4] m (fun M x y wr=>∃ (os ds:List Nat) (A2:Option Addr) (c2 k:Nat),x=.slice A2 os.length c2/\y=.slice A1 k c1/\k<=200/\wr.ownsRow w.heap.size 5 1 (.slice A2 os.length c2) os.length (digV .u8 os)/\wr.ownsRow w.heap.size 152 1 (.slice A1 k c1) k (digV .u32 ds)/\Digs B32 ds/\Norm ds/\val B32 ds=M /\
   tailD M++(os.map UInt8.ofNat).reverse=tailD m/\(∀ o∈os,o<256)/\wr.heap[w.heap.size]?=some (.cells #[.bool true,.slice A n c] 106 (0,0))/\Below w.heap.size w wr)
  case atStart=>exact ⟨[],l,none,0,n,rfl,rfl,hn,World.ownsRow_nil _ _ _ _,hown,gl,nl,HV.out,by simp,by simp,hX,hB⟩
  case round=>
   obtain ⟨os,ds,A2,c2,k,rfl,rfl,hk,hos,hds,gd,nd,hval,htl,hby,hX,hB⟩:=hrel
   have HT:=Hd htl;have HY:=Hd hby;have HX:=Hd hX
   have hdl:ds.length=k:=by have:=hds.1;rw [QaD] at this;omega
   have hosl:os.length<=200:=by
    have h1:=tail_len 200 m HM.out
    have h2:=congrArg List.length htl
    simp at h2
    omega
   clear htl hby hX
   rcases Nat.eq_zero_or_pos k with hk0 | hk0
   ·subst hk0
    have hd0:ds=[]:=List.length_eq_zero_iff.1 hdl
    subst hd0
    rw [val_nil] at hval
    subst hval
    have htl:=HT.out
    rw [QbE,List.nil_append] at htl
    have hos0:0<os.length:=by
     rcases Nat.eq_zero_or_pos os.length with h | h
     ·have:os=[]:=List.length_eq_zero_iff.1 h
      subst this
      have h2:=QbF hmp
      rw [<- htl] at h2
      simp at h2
     ·exact h
    obtain ⟨A2b,hA2⟩:∃ g,A2=some ⟨g,0,none⟩:=by
     rcases hos.2 with ⟨_,h0⟩|⟨g,cap,cur,hv,hbg,_⟩
     ·omega
     ·injection hv with hA
      exact ⟨g,hA⟩
    subst hA2
    obtain ⟨b0,b1,b2,b3,b4⟩:=box2 HX.out
    clear hds gd nd hdl HX htl
    have hB7:=hB
    have hosn:os.length<=200:=hosl
    go_wp2_with (first
     | (at_builtin;refine Qas rfl _ _ 190 rfl w.heap.size 5 i0 (.int .u8 0) 1 Tryz.underlying190 hi hz0 hz1 hz2 rfl (.slice (some ⟨A2b,0,none⟩) os.length c2) os.length (digV .u8 os) rfl hos (.int .u8 45) rfl rfl (by unfold maxLen;omega) (by omega) hB.size ?_;intro A3 c3 w3 hos3 hg3;have hB3:=hB.grown hg3 hB.size (town_ge hos);clear hos hg3))
    have hos4:w3.ownsRow w.heap.size 5 1 (.slice A3 (os++[45]).length c3) (os++[45]).length (digV .u8 (os++[45])):=by
     rw [List.length_append,List.length_singleton,QaS]
     exact hos3
    obtain ⟨A3b,hA3⟩:∃ g,A3=some ⟨g,0,none⟩:=by
     rcases hos4.2 with ⟨_,h0⟩|⟨g,cap,cur,hv,hbg,_⟩
     ·simp at h0
     ·injection hv with hA
      exact ⟨g,hA⟩
    subst hA3
    have hl1:(os++[45]).length=os.length+1:=by simp
    have HY2:=Hd (show ∀ o∈os++[45],o<256 from fun o ho=>by
     rcases List.mem_append.1 ho with h | h
     ·exact HY.out o h
     ·obtain rfl:o=45:=by simpa using h
      decide)
    have HO2:=Hd (show bs (sdig (-(m:Int)))=(⟨((os++[45]).reverse.map UInt8.ofNat).toArray⟩:ByteArray) by
     have h5:=HT.out
     rw [QbE,List.nil_append,tail_pos hmp] at h5
     rw [sdig_neg (by omega),show (-(m:Int)).natAbs=m by omega,<- h5]
     show (⟨(45 :: (os.map UInt8.ofNat).reverse).toArray⟩:ByteArray)=_
     congr 2
     simp)
    rw [show os.length+1=(os++[45]).length from hl1.symm]
    generalize os++[45]=os2 at hos4 HY2 HO2 hl1 ⊢
    clear hos3 hB HT HY hB7
    have REV:=reverse8_c os2 w.heap.size (some ⟨A3b,0,none⟩) os2.length c3 w3 hos4 rfl (by omega) (by omega)
    refine REV.mono ?_
    rintro e w2 ⟨rfl,hown2,hb2⟩
    have hB2:=Hd (hB3.trans hb2)
    have hcv:=run_convert_bytes_back (P:=Tryz.prog) w2 190 9 5 ⟨A3b,0,none⟩ c3 (os2.reverse.map UInt8.ofNat) Tryz.underlying190 Tryz.underlying5 Tryz.underlying9 (by
     intro k hk
     have hk2:k<os2.reverse.length:=by simpa using hk
     have h1:=(hown2.cellAt k (by simpa using hk2)).trans (Qbn .u8 hk2)
     have hadd:(⟨A3b,0,none⟩:Addr).add k=⟨A3b,k,none⟩:=by unfold Addr.add;split<;>simp_all
     rw [hadd,h1]
     have h2:=dg_get hk2
     rw [List.getElem?_eq_getElem hk2] at h2
     injection h2 with h2
     have h3:os2.reverse[k]<256:=HY2.out _ (List.mem_reverse.1 (List.getElem_mem hk2))
     rw [List.getElem_map,UInt8.toNat_ofNat',h2,Nat.mod_eq_of_lt (by rw [<- h2];exact h3)])
    rw [show (os2.reverse.map UInt8.ofNat).length=os.length+1 by simp;exact hl1] at hcv
    clear REV hown2 hos4 hB3 hb2 b0 b1 b2 b3 b4
    go_wp2
    go_ret
    exact ⟨by rw [HO2.out,List.map_reverse];rfl,hB2.out⟩
   ·obtain ⟨g,hA1,hbg⟩:∃ g,A1=some ⟨g,0,none⟩/\w.heap.size<=g:=by
     rcases hds.2 with ⟨_,h0⟩|⟨g,cap,cur,hv,hbg,_⟩
     ·omega
     ·injection hv with hA
      exact ⟨g,hA,hbg⟩
    subst hA1
    have hkc:k<=c1:=(Qal hds).1
    go_wp2_with fail
    obtain ⟨wo,rfl⟩:∃ wo:World,wo=wr:=⟨_,rfl⟩
    go_loopw [5,6] (fun rv i wr=>∃ (j r:Nat) (es:List Nat),j<=k/\rv=.int .u32 (r:Int)/\i=.int .i64 ((j:Int)-1)/\r<10/\es.length=k/\es.take j=ds.take j/\10*val B32 (es.drop j)+r=val B32 (ds.drop j)/\Digs B32 es /\
     wr.ownsRow w.heap.size 152 1 (.slice (some ⟨g,0,none⟩) k c1) k (digV .u32 es)/\wr.ownsRow w.heap.size 5 1 (.slice A2 os.length c2) os.length (digV .u8 os)/\wr.heap[w.heap.size]?=some (.cells #[.bool true,.slice A n c] 106 (0,0))/\Below w.heap.size w wr) (fun _ i _=>(intOf i+1).toNat)
    case atStart=>exact ⟨k,0,ds,Nat.le_refl _,rfl,by go_num,by omega,hdl,rfl,by rw [List.drop_eq_nil_of_le (by omega)];rfl,gd,hds,hos,HX.out,hB⟩
    case round=>
     clear hB hos hds hX
     obtain ⟨j,r,es,hj,rfl,rfl,hr,hel,htk,hvl,ge,hes,hos,hX,hB⟩:=hrel
     have HTK:=Hd htk;have HVL:=Hd hvl;have HX:=Hd hX;have HEL:=Hd hel
     clear htk hvl hX hel
     rcases j with _ | j
     ·have hvl:=HVL.out
      rw [List.drop_zero,List.drop_zero,hval] at hvl
      have hve:val B32 es=gk/10:=by omega
      have hre:r=gk%10:=by omega
      have HVE:=Hd hve;have HRE:=Hd hre
      have hdig:Dig wr .u32 152 (some ⟨g,0,none⟩) k es:=Dig.of_own hes
      have hc1m:c1<=maxLen:=(Qal hes).2
      have hwrp:IntKind.u8.wrap (r:Int)=(r:Int):=IntWalk.u8_in _ (by omega)
      clear hvl hve hre HTK HVL
      go_wp2_with (first
       | (at_builtin;refine Qas rfl _ _ 190 rfl w.heap.size 5 i0 (.int .u8 0) 1 Tryz.underlying190 hi hz0 hz1 hz2 rfl (.slice A2 os.length c2) os.length (digV .u8 os) rfl hos (.int .u8 (48+(r:Int))) rfl rfl (by unfold maxLen;omega) (by omega) hB.size ?_;intro A3 c3 w3 hos3 hg3;have hes3:=town_grown hes hos hg3 (by decide);have hX3:=Hd (tgrown_heap HX.out hos hg3 (by decide));have hB3:=hB.grown hg3 hB.size (town_ge hos);clear hos hes hg3))
      refine (trimmed_c es (some ⟨g,0,none⟩) k c1 w3 (Dig.of_own hes3) (by omega) hc1m).mono ?_
      rintro e w4 ⟨rfl,k2,hk2,ht,rfl⟩
      have HT2:=Hd ht
      clear ht
      go_wp2
      go_roundg (gk/10)
      case measure=>
       have:0<gk:=by rw [<- hval];exact QbU (by decide) nd (by intro e;rw [e] at hdl;simp at hdl;omega)
       omega
      case rel=>
       have hgk:0<gk:=by rw [<- hval];exact QbU (by decide) nd (by intro e;rw [e] at hdl;simp at hdl;omega)
       refine ⟨os++[48+r],es.take k2,A3,c3,k2,by simp,rfl,by omega,?_,own_take hes3 hk2,by rw [<- HT2.out];exact Qa3 ge,by rw [<- HT2.out];exact Qa2 es,by rw [<- HT2.out,Qa4];exact HVE.out,?_,?_,hX3.out,hB3⟩
       ·rw [List.length_append,List.length_singleton,QaS]
        exact hos3
       ·rw [List.map_append,List.reverse_append,<- HT.out,QbF hgk,HRE.out]
        simp
       ·intro o ho
        rcases List.mem_append.1 ho with h | h
        ·exact HY.out o h
        ·have:o=48+r:=by simpa using h
         omega
     ·rw [show ((j+1:Nat):Int)-1=(j:Int) by omega]
      have hxx:=(hes.cellAt j (by omega)).trans (Qbn .u32 (l:=es) (k:=j) (by rw [HEL.out];omega))
      have hfz:=hes.frozenAt j
      obtain ⟨x,hx⟩:=ex_ (dg es j)
      have hxb:x<4294967296:=by rw [<- hx];exact QaU ge (by decide) _
      rw [hx] at hxx
      have HXX:=Hd hx
      have DV:=Hd (fun w=>div32_c r x w hr hxb)
      have hjk:(j:Int)<(k:Int):=by omega
      clear hx
      go_wp2_with (first | (refine (DV.out _).mono ?_;rintro e w2 ⟨⟨q,rfl⟩,rfl⟩))
      have hes2:(wr.drewN q).ownsRow w.heap.size 152 1 (.slice (some ⟨g,0,none⟩) k c1) k (digV .u32 es):=by exact hes
      have hos2:(wr.drewN q).ownsRow w.heap.size 5 1 (.slice A2 os.length c2) os.length (digV .u8 os):=by exact hos
      have hB2:=(below_drewN hB q).setCell (p:=⟨g,j,none⟩) hbg (.int .u32 (((r:Int)*4294967296+(x:Int))/10))
      have hX2:(wr.drewN q).heap[w.heap.size]?=some (.cells #[.bool true,.slice A n c] 106 (0,0)):=by exact HX.out
      refine ⟨⟨j,(r*4294967296+x)%10,es.set j ((r*4294967296+x)/10),by omega,congrArg _ (by omega),rfl,by omega,by simp [HEL.out],take_set HTK.out,div_step (by rw [HEL.out];omega) (by rw [HEL.out,hdl]) (by rw [<- dg_take HTK.out,HXX.out]) HVL.out,ge.set _ (by unfold B32;omega),Qb5 hes2 j (by omega),town_set hos2 hes2 (by decide) _,?_,hB2⟩,by simp [intOf]⟩
      refine Qaf hX2 ?_ _
      rcases hes2.2 with ⟨hv,_⟩|⟨g2,cap2,cur2,hv2,_,hh2,_⟩
      ·injection hv with hv;cases hv
      ·injection hv2 with hv2
       injection hv2 with hv2
       injection hv2 with hv2
       subst hv2
       exact QaJ hX2 hh2 (by decide)
theorem textz_c (w:World) {s:Bool} {A:Option Addr} {n c:Nat} {z:Int} (h:Big .u32 152 B32 w s A n c z) (hm:z.natAbs<10 ^ 200) :
  Calls Tryz.prog 137 #[.agg #[.bool s,.slice A n c]] w (RetS (bs (sdig z)) w):=by
 have hz:(s=true/\z<0)∨(s=false/\0<=z):=by
  rcases h.sign (by decide) with ⟨e,k⟩|⟨e,-,k⟩|⟨e,-,k⟩
  ·exact .inl ⟨e,Int.sign_eq_neg_one_iff_neg.1 k⟩
  ·exact .inr ⟨e,by rw [Int.sign_eq_zero_iff_zero.1 k];exact Int.le_refl _⟩
  ·exact .inr ⟨e,Int.le_of_lt (Int.sign_eq_one_iff_pos.1 k)⟩
 rcases hz with ⟨rfl,h0⟩|⟨rfl,h0⟩
 ·have e:z=-((z.natAbs:Nat):Int):=by omega
  rw [e] at h
  refine (textn_c w h hm (by omega)).mono ?_
  rintro e' w' ⟨rfl,hb⟩
  exact ⟨by rw [<- e],hb⟩
 ·have e:z=((z.natAbs:Nat):Int):=by omega
  rw [e] at h
  refine (text_c w h hm).mono ?_
  rintro e' w' ⟨rfl,hb⟩
  exact ⟨by rw [sdig_pos (by omega)];rfl,hb⟩
end Go.Proofs.YtaiabjiehpcaoaaGreatDoor
namespace Go.Proofs.YtaiabjiehpcaoaaGreatDoor
open Limb Nmb Work
set_option linter.unusedVariables false
set_option linter.unusedSimpArgs false
structure ColK (mark:Int) (c:Col):Prop where
 kind:1<=c.kind/\c.kind<=3
 width:1<=c.width/\c.width<=100
 places:c.kind=2->0<=c.places/\c.places<=9
 form:c.kind=3->formW c.form≠0
 fixed:mark=0->c.kind≠3->c.fill=32∨(c.kind=2/\c.fill=48/\c.right=true)
 day:mark=0->c.kind=3->c.width=formW c.form
 left:c.kind=3->c.right=false
theorem colF_ok {mark:Int} {c:Col} {b:List Col} (h:colF mark c b=0):ColK mark c:=by
 unfold colF at h
 split at h;· cases h
 split at h;· cases h
 split at h;· cases h
 rename_i h3
 split at h;· cases h
 rename_i h4
 split at h;· cases h
 rename_i h5
 split at h;· cases h
 rename_i h6
 split at h;· cases h
 rename_i h7
 have hi:QaA mark c=true:=by
  cases hq:QaA mark c with
  | true=>rfl
  | false=>exact absurd hq h7
 have hl:c.kind=3->c.right=false:=fun hk=>by
  unfold QaA at hi
  rw [hk] at hi
  cases hr:c.right with
  | false=>rfl
  | true=>rw [hr] at hi;simp at hi
 have hw:1<=c.width/\c.width<=100:=Classical.byContradiction h4
 have hk:1<=c.kind/\c.kind<=3:=Classical.byContradiction h3
 refine ⟨hk,hw,fun e=>Classical.byContradiction fun k=>h5 ⟨e,k⟩,fun e k=>h6 ⟨e,k⟩,fun hm hk=>?_,fun hm hk=>?_,hl⟩
 ·split at h
  ·rename_i h8;exact absurd hm h8
  split at h;· cases h
  rename_i h9
  by_cases hf:c.fill=32
  ·exact .inl hf
  ·exact .inr (Classical.byContradiction fun k=>h9 ⟨hk,hf,k⟩)
 ·split at h
  ·rename_i h8;exact absurd hm h8
  split at h;· cases h
  split at h;· cases h
  rename_i h10
  exact Classical.byContradiction fun k=>h10 ⟨hk,k⟩
theorem formB_of {n:Int} (h:formW n≠0):formB n=true/\n≠2:=by
 unfold formW at h
 have:n=1∨n=3∨n=4∨n=5:=by
  split at h
  ·omega
  ·split at h
   ·omega
   ·split at h
    ·omega
    ·exact absurd rfl h
 rcases this with rfl | rfl | rfl | rfl<;>exact ⟨by decide,by decide⟩
structure KndK (mark:Int) (ks:List RKd) (i:Nat):Prop where
 tag:1<=(kA ks i).tag.size/\(kA ks i).tag.size<=6
 letters:tagL (kA ks i).tag.data.toList=true
 even:mark=0->(kA ks i).tag.size=(kA ks 0).tag.size
 many:(kA ks i).fields.length<=50
 cols:∀ j,j<(kA ks i).fields.length->ColK mark (cA (kA ks i).fields j)
 once:∀ j j',j<(kA ks i).fields.length->j'<j->(cA (kA ks i).fields j').name≠(cA (kA ks i).fields j).name
 first:∀ j,j<i->(kA ks j).tag≠(kA ks i).tag
 most:0<=(kA ks i).most/\(kA ks i).most<=2000
theorem colF_once {mark:Int} {c:Col} {b:List Col} (h:colF mark c b=0):b.any (Qaj c.name)=false:=by
 unfold colF at h
 split at h;· cases h
 split at h;· cases h
 rename_i h2
 cases hq:b.any (Qaj c.name) with
 | true=>exact absurd hq h2
 | false=>rfl
theorem kindF_ok {m:Int} {ks:List RKd} {i:Nat} (hi:i<ks.length) (h:Qax m ks i=0):KndK m ks i:=by
 unfold Qax at h
 split at h;· cases h
 rename_i h1
 split at h;· cases h
 rename_i h2
 split at h;· cases h
 rename_i h3
 split at h;· cases h
 rename_i h4
 split at h
 ·rename_i h5;exact absurd h h5
 rename_i h5
 split at h;· cases h
 rename_i h6
 have h5:colsF m (kA ks i).fields=0:=Classical.byContradiction h5
 unfold colsF at h5
 have h7:=fstF_zero h5
 refine ⟨Classical.byContradiction fun e=>h1 (.inl e),?_,fun hm=>Classical.byContradiction fun e=>h3 ⟨hm,e⟩,by omega,fun j hj=>colF_ok (h7 j hj),fun j j' hj hj' e=>?_,fun j hj e=>?_,by omega⟩
 ·cases hq:tagL (kA ks i).tag.data.toList with
  | true=>rfl
  | false=>exact absurd (.inr hq) h1
 ·have h8:=colF_once (h7 j hj)
  have:((kA ks i).fields.take j).any (Qaj (cA (kA ks i).fields j).name)=true:=List.any_eq_true.2 ⟨cA (kA ks i).fields j',by rw [List.mem_iff_getElem];exact ⟨j',by rw [List.length_take];omega,by rw [List.getElem_take,Qbr]⟩,decide_eq_true e⟩
  rw [this] at h8
  cases h8
 ·exact h2 (List.any_eq_true.2 ⟨kA ks j,by rw [List.mem_iff_getElem];exact ⟨j,by rw [List.length_take];omega,by rw [List.getElem_take,kA_get]⟩,decide_eq_true e⟩)
structure FmtK (f:Fmt):Prop where
 marks:f.mark≠0->QaR f.mark=false/\(f.quote≠0->QaR f.quote=false)/\f.mark≠f.quote
 none:f.mark=0->f.quote=0
 some:1<=f.kinds.length/\f.kinds.length<=30
 kinds:∀ i,i<f.kinds.length->KndK f.mark f.kinds i
theorem checkF_ok {f:Fmt} (h:Qao f=0):FmtK f:=by
 unfold Qao at h
 split at h
 ·rename_i h1;exact absurd h h1
 rename_i h1
 split at h;· cases h
 rename_i h2
 split at h;· cases h
 rename_i h3
 split at h
 ·rename_i h4;exact absurd h h4
 rename_i h4
 have h1:QaE f.mark f.quote=0:=Classical.byContradiction h1
 have h4:fstF (Qax f.mark f.kinds) f.kinds.length=0:=Classical.byContradiction h4
 unfold QaE at h1
 split at h1;· cases h1
 rename_i e1
 split at h1;· cases h1
 rename_i e2
 refine ⟨fun hm=>⟨?_,fun hq=>?_,fun e=>e1 ⟨hm,.inr (.inr e)⟩⟩,fun hm=>Classical.byContradiction fun e=>e2 ⟨hm,e⟩,by omega,fun i hi=>kindF_ok hi (fstF_zero h4 i hi)⟩
 ·cases hq:QaR f.mark with
  | false=>rfl
  | true=>exact absurd ⟨hm,.inl hq⟩ e1
 ·cases hq2:QaR f.quote with
  | false=>rfl
  | true=>exact absurd ⟨hm,.inr (.inl ⟨hq,hq2⟩)⟩ e1
end Go.Proofs.YtaiabjiehpcaoaaGreatDoor
namespace Go.Proofs.YtaiabjiehpcaoaaGreatDoor
open Go.RowKit Limb Nmb
set_option linter.unusedVariables false
set_option linter.unusedSimpArgs false
theorem byS (s:ByteArray) (j:Nat) (h:j<s.size):(s[j].toNat:Int)=byA s.data.toList j:=by
 rw [byA_get (by simpa using h)];rfl
theorem szL (s:ByteArray):s.data.toList.length=s.size:=by simp
theorem inB_inL (l:List UInt8) (a b:Nat):inB l a b=inL l a b:=by
 rw [Bool.eq_iff_iff]
 unfold inB
 rw [List.all_eq_true]
 constructor
 ·intro h
  refine inL_mk (fun i hi=>?_)
  have:=of_decide_eq_true (h l[i] (List.getElem_mem hi))
  rw [byA_get hi]
  omega
 ·intro h c hc
  obtain ⟨i,hi,rfl⟩:=List.getElem_of_mem hc
  have:=inL_yes h hi
  rw [byA_get hi] at this
  exact decide_eq_true (by omega)
theorem digB_digs (l:List UInt8):digB l=digs l:=by
 unfold digB digs
 rw [inB_inL,Bool.and_comm]
 rfl
def tagSet:ByteArray:=⟨#[65,66,67,68,69,70,71,72,73,74,75,76,77,78,79,80,81,82,83,84,85,86,87,88,89,90,48,49,50,51,52,53,54,55,56,57]⟩
theorem tagSet_fin:∀ i:Fin 256,tagSet.data.toList.contains (UInt8.ofNat i.val)=tagC ((UInt8.ofNat i.val).toNat:Int):=by decide +kernel
theorem tagSet_c (c:UInt8):tagSet.data.toList.contains c=tagC (c.toNat:Int):=by
 have:=tagSet_fin ⟨c.toNat,c.toNat_lt⟩
 simp only [UInt8.ofNat_toNat] at this
 exact this
theorem trim_tag (l:List UInt8):(Lib.trimS l tagSet.data.toList).isEmpty=tagL l:=by
 rw [trimS_nil]
 unfold tagL
 congr 1
 funext c
 exact tagSet_c c
theorem istag_c (s:ByteArray) (w:World) (hs:s.size<=9223372036854775807) :
  Calls Tryz.prog 93 #[.string s] w (RetB (tagL s.data.toList) w):=by
 have hcon:=Tryz.strings_Trim_laid s tagSet w hs (by decide) (ascii_of_all (by decide))
 obtain ⟨r,hr⟩:∃ r:ByteArray,(⟨(Lib.trimS s.data.toList tagSet.data.toList).toArray⟩:ByteArray)=r:=⟨_,rfl⟩
 have er:(Lib.trimS s.data.toList tagSet.data.toList).isEmpty=r.toList.isEmpty:=by rw [<- hr,Lib.toList_data]
 rw [hr] at hcon
 unfold tagSet at hcon
 rw [<- trim_tag,er]
 clear hr er
 cases hb:r.toList.isEmpty with
 | true=>
  go_enter Tryz.func93,Tryz.ntmps93
  go_wp2_with (go_at_call 140;refine hcon.mono ?_;rintro e w1 ⟨rfl,hb1⟩)
  go_ret
  exact ⟨rfl,hb1⟩
 | false=>
  go_enter Tryz.func93,Tryz.ntmps93
  go_wp2_with (go_at_call 140;refine hcon.mono ?_;rintro e w1 ⟨rfl,hb1⟩)
  go_ret
  exact ⟨rfl,hb1⟩
theorem inb_c (s:ByteArray) (lo hi:Nat) (w:World) (hs:s.size<=9223372036854775807) :
  Calls Tryz.prog 157 #[.string s,.int .u8 (lo:Int),.int .u8 (hi:Int)] w fun e w'=>w=w'/\e=.returned (.bool (inL s.data.toList lo hi)):=by
 rw [<- inB_inL]
 cases h:inB s.data.toList lo hi with
 | true=>exact inb_yes s lo hi w h hs
 | false=>exact inb_no s lo hi w h hs
theorem isdigs_c (s:ByteArray) (w:World) (hs:s.size<=9223372036854775807) :
  Calls Tryz.prog 124 #[.string s] w fun e w'=>w=w'/\e=.returned (.bool (digs s.data.toList)):=by
 rw [<- digB_digs];exact Qb0 s w hs
end Go.Proofs.YtaiabjiehpcaoaaGreatDoor
namespace Go.Proofs.YtaiabjiehpcaoaaGreatDoor
open Go.RowKit Limb Work Nmb
set_option linter.unusedVariables false
set_option linter.unusedSimpArgs false
theorem atoi_c (s:ByteArray) (w:World) (hs:s.size<=18) (hd:digs s.data.toList=true) :
  Calls Tryz.prog 224 #[.string s] w fun e w'=>e=.returned (.tuple #[.int .i64 ((dv s.data.toList:Nat):Int),.nilIface])/\Below w.heap.size w w':=by
 refine (Tryz.strconv_Atoi s _ hs (atoi_dv hd) w).mono ?_
 rintro e w' ⟨rfl,t,rfl⟩
 exact ⟨rfl,Lib.bytesWorld_below _ _ _⟩
def intV (l:List Int):List Value:=l.map (Value.int .i64)
theorem intV_snoc (l:List Int) (x:Int):intV l++[.int .i64 x]=intV (l++[x]):=by unfold intV;rw [List.map_append];rfl
theorem intV_at {l:List Int} {j:Nat} (h:j<l.length):(intV l)[j]?=some (.int .i64 l[j]):=by simp [intV,h]
def RetPrt (o:Option (List Int)) (w:World) (e:Ending) (w':World):Prop:=∃ v,e=.returned (.tuple #[v,.bool o.isSome])/\Below w.heap.size w w' /\
 ∀ xs,o=some xs->xs≠[]->∃ g c,v=.slice (some ⟨g,0,none⟩) xs.length c/\∀ j,(h:j<xs.length)->w'.cell? ⟨g,j,none⟩=some (.int .i64 xs[j])
theorem prt_none {w w':World} {v:Value} (hb:Below w.heap.size w w'):RetPrt none w (.returned (.tuple #[v,.bool false])) w':=⟨v,rfl,hb,fun xs h=>by cases h⟩
theorem ext_from (t:ByteArray) (n:Nat):(t.extract n t.size).data.toList=t.data.toList.drop n:=by rw [Lib.extract_to_end]
theorem ext_to (t:ByteArray) (n:Nat):(t.extract 0 n).data.toList=t.data.toList.take n:=by rw [Lib.extract_data];simp
def widths (ws:List Nat):Prop:=∀ j,(h:j<ws.length)->1<=ws[j]/\ws[j]<=4
theorem parts_c (s:ByteArray) (ws:List Nat) (g0 c0:Nat) (w:World) (hs:s.size<=9223372036854775807) (hw:widths ws) (hlen:ws.length<=10)
  (hg:g0<w.heap.size) (hc:∀ j,(h:j<ws.length)->w.cell? ⟨g0,j,none⟩=some (.int .i64 ((ws[j]:Nat):Int))) :
  Calls Tryz.prog 262 #[.string s,.slice (some ⟨g0,0,none⟩) ws.length c0] w (RetPrt (prt ws s.data.toList) w):=by
 obtain ⟨i0,hi⟩:∃ i,Tryz.prog.info? 3=some i:=⟨_,rfl⟩
 have hz0:i0.zero=some (.int .i64 0):=by obtain rfl:=Option.some.inj (hi.symm.trans rfl);rfl
 have hz1:i0.size=1:=by obtain rfl:=Option.some.inj (hi.symm.trans rfl);rfl
 have hz2:i0.bytes=8:=by obtain rfl:=Option.some.inj (hi.symm.trans rfl);rfl
 obtain ⟨O,hO⟩:=ex_ (prt ws s.data.toList)
 have HO:=Hd hO
 rw [hO]
 have HW:=Hd hw
 have HC:=Hd hc
 obtain ⟨N,hN⟩:=ex_ (ws.length)
 have HN:=Hd hN
 rw [hN] at hlen ⊢
 clear hO hw hc hN
 go_enter Tryz.func262,Tryz.ntmps262
 go_wp2
 go_loopw [0,6,13] (fun x b i wr=>∃ (k m c:Nat) (A:Option Addr) (t:ByteArray) (acc:List Int),k<=N/\i=.int .i64 k/\x=.string t/\b=.slice A m c/\m=k/\Hid (acc.length=m)/\t.size<=9223372036854775807 /\
   wr.ownsRow w.heap.size 3 1 (.slice A m c) m (intV acc)/\Below w.heap.size w wr/\Hid (O=(prt (ws.drop k) t.data.toList).map (fun r=>acc++r))) (fun _ _ i _=>N-(intOf i).toNat)
 case atStart=>exact ⟨0,0,0,none,s,[],Nat.zero_le _,rfl,rfl,rfl,rfl,Hd rfl,hs,World.ownsRow_nil _ _ _ _,Below.refl _ _,Hd (by rw [<- HO.out,List.drop_zero];simp)⟩
 case round=>
  obtain ⟨k,m,c,A,t,acc,hk,rfl,rfl,rfl,hmk,HM,ht,hown,hb,HR⟩:=hrel
  subst hmk
  have hz:=hb.size
  rcases Nat.lt_or_ge m N with hlt | hge
  ·have hlt':m<ws.length:=by rw [HN.out];exact hlt
   obtain ⟨n1,n2⟩:=HW.out m hlt'
   have hcell:=HC.out m hlt'
   have hdrop:ws.drop m=ws[m] :: ws.drop (m+1):=(List.getElem_cons_drop hlt').symm
   obtain ⟨n,hn⟩:=ex_ (ws[m])
   rw [hn] at n1 n2 hcell hdrop
   have hcell:=(hb.cell (p:=⟨g0,m,none⟩) hg).trans hcell
   have hR:=HR.out
   rw [hdrop] at hR
   clear hn hdrop
   by_cases hsz:t.size<n
   ·rw [prt_short (by rw [szL];exact hsz)] at hR
    have HR2:=Hd (show O=none from hR)
    rw [HR2.out]
    clear hR
    go_wp2
    go_ret2
    exact prt_none hb
   have q:(n:Int)<=(t.size:Int):=by omega
   have hd:=isdigs_c (t.extract 0 n)
   have HD:=Hd (fun w=>hd w (by rw [ByteArray.size_extract];omega))
   clear hd
   rw [ext_to] at HD
   cases hdg:digs (t.data.toList.take n) with
   | false=>
    rw [hdg] at HD
    rw [prt_bad hdg] at hR
    have HR2:=Hd (show O=none from hR)
    rw [HR2.out]
    clear hR hdg
    go_wp2_with fail
    refine (HD.out _).mono ?_
    rintro e w2 ⟨rfl,rfl⟩
    go_wp2
    go_ret2
    exact prt_none hb
   | true=>
    rw [hdg] at HD
    have HA:=Hd (fun w=>atoi_c (t.extract 0 n) w (by rw [ByteArray.size_extract];omega) (by rw [ext_to];exact hdg))
    rw [ext_to] at HA
    have hdv:=dv_lt4 hdg (by rw [List.length_take];omega)
    rw [prt_next (by rw [szL];omega) hdg] at hR
    obtain ⟨v,hv⟩:=ex_ (dv (t.data.toList.take n))
    rw [hv] at HA hR hdv
    have HR2:=Hd (show O=(prt (ws.drop (m+1)) (t.extract n t.size).data.toList).map (fun r=>(acc++[(v:Int)])++r) by
     rw [hR,ext_from,Option.map_map]
     congr 1
     funext r
     simp)
    have hts:(t.extract n t.size).size<=9223372036854775807:=by rw [ByteArray.size_extract];omega
    have HTS:=Hd hts
    have HOW:=Hd hown
    have HM2:=Hd (show (acc++[(v:Int)]).length=m+1 by rw [List.length_append,HM.out];rfl)
    clear hR hdg hv hown hts
    go_wp2_with fail
    refine (HD.out _).mono ?_
    rintro e w2 ⟨rfl,rfl⟩
    go_wp2_with fail
    refine (HA.out _).mono ?_
    rintro e w2 ⟨rfl,hb2⟩
    have hown2:=QaM HOW.out hb2
    have hbb:=Qab hb2 hb hz
    have hz2':=hbb.size
    have HOW2:=Hd hown2
    clear hown2 hb2
    go_wp2_with (at_builtin;(with_reducible refine Qas rfl _ _ 75 rfl w.heap.size 3 i0 (.int .i64 0) 8 Tryz.underlying75 hi hz0 hz1 hz2 rfl (.slice A m c) m (intV acc) rfl HOW2.out (.int .i64 (v:Int)) rfl rfl (by unfold maxLen;omega) (by omega) hz2' ?_);intro A3 c3 w3 hown3 hg3)
    rw [intV_snoc] at hown3
    have hb3:=hbb.grown hg3 hz2' (fun k hk=>(HOW2.out.lt k hk).1)
    have HOW3:=Hd hown3
    clear hown3 hg3
    go_wp2
    go_roundw
    case rel=>exact ⟨m+1,m+1,c3,A3,_,acc++[(v:Int)],by omega,by go_num,rfl,rfl,rfl,HM2,HTS.out,HOW3.out,hb3,HR2⟩
    case measure=>simp [intOf];omega
  ·obtain rfl:m=N:=by omega
   have hR:=HR.out
   rw [List.drop_eq_nil_of_le (by rw [HN.out];exact Nat.le_refl _)] at hR
   have HOW:=Hd hown
   have HB:=Hd hb
   clear hown hb
   by_cases he:t.data.toList=[]
   ·have hR2:=Hd (show O=some acc by rw [hR,he];simp [prt])
    have ht0:t=⟨#[]⟩:=by apply ByteArray.ext;rw [<- Array.toList_inj];exact he
    subst ht0
    clear he hR
    go_wp2
    go_ret2
    rw [hR2.out]
    refine ⟨_,rfl,HB.out,fun xs hxs hne=>?_⟩
    obtain rfl:=Option.some.inj hxs
    have hm:=HM.out
    have hpos:0<acc.length:=List.length_pos_iff.2 hne
    obtain ⟨g,rfl⟩:∃ g,A=some ⟨g,0,none⟩:=by
     rcases HOW.out.2 with h1 | ⟨g,cap,cur,hv,-⟩
     ·obtain ⟨h2,h3⟩:=h1
      injection h2 with e1 e2 e3
      omega
     ·injection hv with e1 e2 e3
      exact ⟨g,e1⟩
    have hcs:=HOW.out.cells (g:=g) rfl
    refine ⟨g,c,by rw [hm];rfl,fun j hj=>?_⟩
    have:=hcs j _ (intV_at hj)
    by_cases e:j=0
    ·subst e;exact this
    ·simpa [Addr.add,e] using this
   ·have hR2:=Hd (show O=none by
     rw [hR,prt,if_neg (by rw [List.isEmpty_iff];exact he)];rfl)
    have e1:t.toList.isEmpty=false:=by rw [Lib.toList_data,Bool.eq_false_iff];intro h;rw [List.isEmpty_iff] at h;exact he h
    clear he hR
    go_wp2
    go_ret2
    rw [hR2.out]
    exact prt_none HB.out
def RetO (o:Option Int) (w:World) (e:Ending) (w':World):Prop:=∃ n:Int,e=.returned (.tuple #[.int .i64 n,.bool o.isSome])/\(∀ v,o=some v->n=v)/\Below w.heap.size w w'
theorem retO_none {o:Option Int} {n:Int} {w w':World} (ho:o=none) (hb:Below w.heap.size w w'):RetO o w (.returned (.tuple #[.int .i64 n,.bool false])) w':=by subst ho;exact ⟨n,rfl,(fun v h=>by cases h),hb⟩
end Go.Proofs.YtaiabjiehpcaoaaGreatDoor
namespace Go.Proofs.YtaiabjiehpcaoaaGreatDoor
open Go.RowKit Limb
set_option linter.unusedVariables false
set_option linter.unusedSimpArgs false
theorem ext_mid (t:ByteArray) (a b:Nat):(t.extract a b).data.toList=(t.data.toList.drop a).take (b-a):=by rw [Lib.extract_data]
end Go.Proofs.YtaiabjiehpcaoaaGreatDoor
