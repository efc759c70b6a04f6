
/- The walk of the reference's order.  -/
import Derived.Test.YtaiabjiehpcaoaaGreatDoorCE
import Derived.Test.YtaiabjiehpcaoaaGreatDoorRX
set_option maxHeartbeats 8000000
set_option maxRecDepth 100000
namespace Go.Proofs.YtaiabjiehpcaoaaGreatDoor
open Go.RowKit Limb Nmb Work
set_option linter.unusedVariables false
set_option linter.unusedSimpArgs false
def lastI (rs:List RowP) (u:ByteArray):Nat->Int
 | 0=>-1
 | n+1=>if (rA rs n).tag=u then (n:Int) else lastI rs u n
theorem lastI_rg (rs:List RowP) (u:ByteArray):∀ n,-1<=lastI rs u n/\lastI rs u n<n
 | 0=>by unfold lastI;omega
 | n+1=>by
  have:=lastI_rg rs u n
  unfold lastI
  split<;>omega
theorem over_no {f:Fmt} {rs:List RowP} {u:ByteArray} : ∀ i,lastI rs u i<0->QbH f rs u i=-1
 | 0,_=>rfl
 | i+1,h=>by
  unfold lastI at h
  show (if (rA rs i).tag=u then (i:Int) else if undB f (rA rs i).tag u=false then -1 else QbH f rs u i)=-1
  by_cases e:(rA rs i).tag=u
  ·rw [if_pos e] at h;omega
  rw [if_neg e] at h ⊢
  by_cases e2:undB f (rA rs i).tag u=false
  ·rw [if_pos e2]
  ·rw [if_neg e2];exact over_no i h
theorem over_hit {f:Fmt} {rs:List RowP} {u:ByteArray} {k:Nat} : ∀ i,lastI rs u i=(k:Int)->(∀ m,k<m->m<i->undB f (rA rs m).tag u=true)->QbH f rs u i=(k:Int)
 | 0,h,_=>by unfold lastI at h;omega
 | i+1,h,ha=>by
  unfold lastI at h
  show (if (rA rs i).tag=u then (i:Int) else if undB f (rA rs i).tag u=false then -1 else QbH f rs u i)=_
  by_cases e:(rA rs i).tag=u
  ·rw [if_pos e] at h ⊢;exact h
  rw [if_neg e] at h ⊢
  have hk:=lastI_rg rs u i
  rw [if_neg (by rw [ha i (by omega) (by omega)];decide)]
  exact over_hit i h (fun m h1 h2=>ha m h1 (by omega))
theorem over_bad {f:Fmt} {rs:List RowP} {u:ByteArray} {k m:Nat} : ∀ i,lastI rs u i=(k:Int)->k<m->m<i->undB f (rA rs m).tag u=false->QbH f rs u i=-1
 | 0,h,_,_,_=>by unfold lastI at h;omega
 | i+1,h,h1,h2,h3=>by
  unfold lastI at h
  show (if (rA rs i).tag=u then (i:Int) else if undB f (rA rs i).tag u=false then -1 else QbH f rs u i)=-1
  by_cases e:(rA rs i).tag=u
  ·rw [if_pos e] at h;omega
  rw [if_neg e] at h ⊢
  by_cases e2:undB f (rA rs i).tag u=false
  ·rw [if_pos e2]
  ·rw [if_neg e2]
   rcases Nat.lt_or_ge m i with h4 | h4
   ·exact over_bad i h h1 h4 h3
   ·obtain rfl:m=i:=by omega
    exact absurd h3 e2
theorem rorder_c (f:Fmt) (A:Option Addr) (cp:Nat) (FA:Nat->Option Addr) (FC:Nat->Nat) (L:Option Addr) (LC:Nat) (rs:List RowP) (RA:Nat->Option Addr) (RC:Nat->Nat) (i:Nat) (w:World) (ho:Kinds w A f.kinds FA FC) (hf:Qao f=0) (hcp:f.kinds.length<=cp) (hl:RowsM w L rs RA RC) (hLC:rs.length<=LC) (hi:i<rs.length) (hLM:LC<=9223372036854775807) (hkt:∀ j,j<rs.length->0<=katI f (rA rs j).tag) :
  Calls Tryz.prog 37 #[fmtG f A cp,.slice L rs.length LC,.int .i64 (i:Int)] w (RetI (rowO f rs i) w):=by
 have HKA:=Hd (fun w h=>Qbg f A cp FA FC (rA rs i).tag w h)
 have HUN:=Hd (fun j (hj:j<rs.length) u (hu:u≠⟨#[]⟩) w h=>risunder_c f A cp FA FC (rA rs j).tag u w h hf hcp (hkt j hj) hu)
 have HKI:=Hd ho;have HLM:=Hd hl
 have hnr:=hl.len
 have hnk:=ho.1.2
 have HM1:=Hd (show ∀ fr n,manyN rs (rA rs i).tag fr (n+1)=manyN rs (rA rs i).tag fr n+(if (rA rs (fr+n)).tag=(rA rs i).tag then 1 else 0) from fun _ _=>rfl)
 have HM0:=Hd (show ∀ fr,manyN rs (rA rs i).tag fr 0=0 from fun _=>rfl)
 have HML:=Hd (fun fr n=>manyN_le rs (rA rs i).tag fr n)
 have HL1:=Hd (show ∀ u n,lastI rs u (n+1)=if (rA rs n).tag=u then (n:Int) else lastI rs u n from fun _ _=>rfl)
 have HL0:=Hd (show ∀ u,lastI rs u 0=-1 from fun _=>rfl)
 have HLR:=Hd (fun u n=>lastI_rg rs u n)
 have HON:=Hd (fun u=>over_no (f:=f) (rs:=rs) (u:=u) i)
 have HOH:=Hd (fun u k=>over_hit (f:=f) (rs:=rs) (u:=u) (k:=k) i)
 have HOB:=Hd (fun u k m=>over_bad (f:=f) (rs:=rs) (u:=u) (k:=k) (m:=m) i)
 obtain ⟨R,hR⟩:=ex_ (rowO f rs i)
 have HFI:=Hd (show fromI f rs i=if (katK f (rA rs i).tag).under=⟨#[]⟩ then 0 else QbH f rs (katK f (rA rs i).tag).under i from rfl)
 obtain ⟨FI,hFI⟩:=ex_ (fromI f rs i)
 have HR:=Hd hR
 unfold rowO at HR
 rw [hFI] at HR HFI
 rw [hR]
 unfold RetI
 unfold RetB at HUN
 obtain ⟨kk,hk,g1,g2,g3⟩:=kat_at (show ¬ katI f (rA rs i).tag<0 by have:=hkt i hi;omega)
 have g1':ixF (Qav (rA rs i).tag) f.kinds=(kk:Int):=g1
 rw [g1'] at HKA
 rw [g2] at HR HFI
 obtain ⟨kb,ko,hA,hkb,kc0,kc1,kc2,kc3⟩:=ho.cells hk
 subst hA
 clear ho hf hl hR hFI hkt g1 g1' g2 g3
 obtain ⟨rt,hrt⟩:=ex_ ((rA rs i).tag)
 have HRT:=Hd hrt
 rw [hrt] at HKA HM1 HM0 HML HR
 obtain ⟨MN,hMN⟩:=ex_ (manyN rs rt)
 rw [hMN] at HM1 HM0 HML HR
 obtain ⟨LI,hLI⟩:=ex_ (lastI rs)
 rw [hLI] at HL1 HL0 HLR HON HOH HOB
 obtain ⟨UB,hUB⟩:=ex_ (undB f)
 rw [hUB] at HUN HOH HOB
 obtain ⟨OV,hOV⟩:∃ x:ByteArray->Int,(fun t=>QbH f rs t i)=x:=⟨_,rfl⟩
 have hOVa:∀ t,QbH f rs t i=OV t:=fun t=>by rw [<- hOV]
 have HON2:Hid (∀ u,LI u i<0->OV u=-1):=Hd (fun u h=>by rw [<- hOVa];exact HON.out u h)
 have HOH2:Hid (∀ u (k:Nat),LI u i=(k:Int)->(∀ m,k<m->m<i->UB (rA rs m).tag u=true)->OV u=(k:Int)):=Hd (fun u k h h2=>by rw [<- hOVa];exact HOH.out u k h h2)
 have HOB2:Hid (∀ u (k m:Nat),LI u i=(k:Int)->k<m->m<i->UB (rA rs m).tag u=false->OV u=-1):=Hd (fun u k m h h2 h3 h4=>by rw [<- hOVa];exact HOB.out u k m h h2 h3 h4)
 rw [hOVa] at HFI
 obtain ⟨K,hK⟩:=ex_ (kA f.kinds kk)
 rw [hK] at HR HFI kc0 kc1 kc2 kc3
 generalize FA kk=KA at kc1
 generalize FC kk=KC at kc1
 clear hrt hMN hK hOV hOVa HON HOH HOB hLI hUB
 obtain ⟨m,q,ks,hd,tl,ct,sm⟩:=f
 obtain ⟨kt,fs,km,ku⟩:=K
 unfold fmtG at HKA HUN ⊢
 simp only at HKA HUN HKI HFI HR hk hcp hnk kc0 kc1 kc2 kc3 ⊢
 obtain ⟨nk,hnk2⟩:=ex_ (ks.length)
 rw [hnk2] at HKA HUN hk hcp hnk ⊢
 obtain ⟨nf,hnf⟩:=ex_ (fs.length)
 rw [hnf] at kc1
 obtain ⟨nr,hnr2⟩:=ex_ (rs.length)
 have HNR:=Hd hnr2
 rw [hnr2] at hnr hi hLC HUN HR ⊢
 clear hnk2 hnf hnr2
 have HKC:=Hd (show ∀ wx,Below w.heap.size w wx->wx.cell? ⟨kb,ko+kk*4,none⟩=some (.string kt)/\wx.cell? ⟨kb,ko+kk*4+1,none⟩=some (.slice KA nf KC)/\wx.cell? ⟨kb,ko+kk*4+2,none⟩=some (.int .i64 km)/\wx.cell? ⟨kb,ko+kk*4+3,none⟩=some (.string ku) from fun wx h=>
  ⟨(h.cell (p:=⟨kb,ko+kk*4,none⟩) hkb).trans kc0,(h.cell (p:=⟨kb,ko+kk*4+1,none⟩) hkb).trans kc1,(h.cell (p:=⟨kb,ko+kk*4+2,none⟩) hkb).trans kc2,(h.cell (p:=⟨kb,ko+kk*4+3,none⟩) hkb).trans kc3⟩)
 have hP:=Qac w (.cells #[.int .u8 m,.int .u8 q,.slice (some ⟨kb,ko,none⟩) nk cp,.string hd,.string tl,.string ct,.string sm] 24) rfl
 have hB1:Below w.heap.size w (w.alloc (.cells #[.int .u8 m,.int .u8 q,.slice (some ⟨kb,ko,none⟩) nk cp,.string hd,.string tl,.string ct,.string sm] 24)):=by go_grown
 clear kc0 kc1 kc2 kc3 hkb
 go_enter Tryz.func37,Tryz.ntmps37
 go_upto_region 1 with fail
 generalize w.alloc (.cells #[.int .u8 m,.int .u8 q,.slice (some ⟨kb,ko,none⟩) nk cp,.string hd,.string tl,.string ct,.string sm] 24)=w1 at hP hB1 ⊢
 have HW:=Hd (show ∀ wx,Below w1.heap.size w1 wx->wx.heap[w.heap.size]?=some (.cells #[.int .u8 m,.int .u8 q,.slice (some ⟨kb,ko,none⟩) nk cp,.string hd,.string tl,.string ct,.string sm] 24 (0,0))/\Kinds wx (some ⟨kb,ko,none⟩) ks FA FC/\RowsM wx L rs RA RC/\Below w.heap.size w wx from fun wx h=>by
  have h2:=Qab h hB1 hB1.size
  exact ⟨Qaa hP h,HKI.out.below h2,HLM.out.below h2,h2⟩)
 clear hP hB1
 obtain ⟨q1,qk,ql,qb⟩:=HW.out _ (Below.refl _ _)
 obtain ⟨⟨p0,p1,p2,p3,p4,p5,p6⟩,-⟩:=Qai q1
 obtain ⟨b,off,rfl,hbk,c0,c1⟩:=ql.cells (j:=i) (by rw [HNR.out];exact hi)
 rw [HRT.out] at c0
 have QK:=Hd qk;have QB:=Hd qb;have Q1:=Hd q1
 clear q1 qk ql qb c1
 obtain ⟨B1,hB1⟩:=ex_ (decide (hd≠⟨#[]⟩/\(decide (rt=hd)≠decide (i=0))))
 obtain ⟨B2,hB2⟩:=ex_ (decide (tl≠⟨#[]⟩/\rt=tl/\i≠nr-1))
 have HB1:=Hd hB1;have HB2:=Hd hB2
 clear hB1 hB2
 go_upto_region 2 with fail
 go_cut [51] (fun v wx=>v=.bool (B1||B2)/\w1=wx)
 case first=>
  have e1:=Qah hd
  have e2:=Qap rt hd
  have e3:=Qah tl
  have e4:=Qap rt tl
  obtain ⟨n1,hn1⟩:=ex_ (nr-1)
  have hix:(nr:Int)-1=(n1:Int):=by omega
  have hwr:IntKind.i64.wrap ((n1:Nat):Int)=(n1:Int):=IntWalk.i64_in _ (by omega)
  obtain ⟨Z,hZ⟩:=ex_ (((i:Int)==0))
  obtain ⟨N,hN⟩:=ex_ (((i:Int) !=(n1:Int)))
  obtain ⟨S1,hS1⟩:=ex_ (decide (hd=⟨#[]⟩))
  obtain ⟨X1,hX1⟩:=ex_ (decide (rt=hd))
  obtain ⟨S3,hS3⟩:=ex_ (decide (tl=⟨#[]⟩))
  obtain ⟨X4,hX4⟩:=ex_ (decide (rt=tl))
  rw [hS1] at e1
  rw [hX1] at e2
  rw [hS3] at e3
  rw [hX4] at e4
  have HE1:=Hd (show B1=(!S1&&(X1 !=Z)) by
   rw [<- HB1.out,<- hS1,hX1,<- hZ]
   have hz:decide (i=0)=((i:Int)==0):=by
    rcases Nat.eq_zero_or_pos i with h | h
    ·rw [h];rfl
    ·rw [decide_eq_false (by omega)];exact (beq_eq_false_iff_ne.2 (by omega)).symm
   rw [hz]
   generalize ((i:Int)==0)=zz
   by_cases h:hd=⟨#[]⟩<;>cases X1<;>cases zz<;>simp [h])
  have HE2:=Hd (show B2=(!S3&&X4&&N) by
   rw [<- HB2.out,<- hS3,<- hX4,<- hN,hn1]
   by_cases h3:tl=⟨#[]⟩<;>by_cases h4:rt=tl<;>by_cases h5:i=n1<;>simp [h3,h4,h5]<;>omega)
  clear hS1 hX1 hS3 hX4 hn1 HB1 HB2
  cases S1 with
  | true=>
   cases S3 with
   | true=>go_wp2;go_meet;exact ⟨by rw [HE1.out,HE2.out];rfl,rfl⟩
   | false=>
    cases X4 with
    | false=>go_wp2;go_meet;exact ⟨by rw [HE1.out,HE2.out];rfl,rfl⟩
    | true=>cases N<;>(go_wp2;go_meet;exact ⟨by rw [HE1.out,HE2.out];rfl,rfl⟩)
  | false=>
   have key:∀ xz:Bool,(X1 !=Z)=xz->True:=fun _ _=>trivial
   cases X1<;>cases Z<;>first
    | (go_wp2_with fail;go_meet;exact ⟨by rw [HE1.out,HE2.out];rfl,rfl⟩)
    | (cases S3 with
       | true=>go_wp2;go_meet;exact ⟨by rw [HE1.out,HE2.out];rfl,rfl⟩
       | false=>
         cases X4 with
         | false=>go_wp2;go_meet;exact ⟨by rw [HE1.out,HE2.out];rfl,rfl⟩
         | true=>cases N<;>(go_wp2;go_meet;exact ⟨by rw [HE1.out,HE2.out];rfl,rfl⟩))
 case rest=>
 obtain ⟨rfl,rfl⟩:=hcut
 cases hb1:(B1||B2) with
 | true=>
  have HE:=Hd (show R=8 by
   rw [<- HR.out]
   cases hb:B1 with
   | true=>exact if_pos (of_decide_eq_true (HB1.out.trans hb))
   | false=>
    rw [if_neg (of_decide_eq_false (HB1.out.trans hb))]
    rw [hb] at hb1
    exact if_pos (of_decide_eq_true (HB2.out.trans hb1)))
  clear hb1
  go_wp2
  go_ret
  exact ⟨by rw [HE.out];rfl,QB.out⟩
 | false=>
 have hb11:B1=false:=by cases B1<;>simp_all
 have hb12:B2=false:=by cases B2<;>simp_all
 have HR2:=Hd ((if_neg (of_decide_eq_false (HB2.out.trans hb12))).symm.trans ((if_neg (of_decide_eq_false (HB1.out.trans hb11))).symm.trans HR.out))
 clear hb1 hb11 hb12 HR HB1 HB2 p0 p1 p2 p3 p4 p5 p6 c0 hbk
 have T1:Below w1.heap.size w1 w1:=Below.refl _ _
 have HSB:=Hd (show ∀ wx,Below w1.heap.size w1 wx->(fun w':World=>w'.cell? ⟨w.heap.size,0,none⟩=some (.int .u8 m)/\w'.cell? ⟨w.heap.size,1,none⟩=some (.int .u8 q)/\w'.cell? ⟨w.heap.size,2,none⟩=some (.slice (some ⟨kb,ko,none⟩) nk cp)/\w'.cell? ⟨w.heap.size,3,none⟩=some (.string hd)/\w'.cell? ⟨w.heap.size,4,none⟩=some (.string tl)/\w'.cell? ⟨w.heap.size,5,none⟩=some (.string ct)/\w'.cell? ⟨w.heap.size,6,none⟩=some (.string sm)/\w'.cell? ⟨kb,ko+kk*4,none⟩=some (.string kt)/\w'.cell? ⟨kb,ko+kk*4+1,none⟩=some (.slice KA nf KC)/\w'.cell? ⟨kb,ko+kk*4+2,none⟩=some (.int .i64 km)/\w'.cell? ⟨kb,ko+kk*4+3,none⟩=some (.string ku)) wx from fun wx h=>by
  obtain ⟨⟨f0,f1,f2,f3,f4,f5,f6⟩,-⟩:=Qai (HW.out _ h).1
  obtain ⟨g0,g1,g2,g3⟩:=HKC.out _ (HW.out _ h).2.2.2
  exact ⟨f0,f1,f2,f3,f4,f5,f6,g0,g1,g2,g3⟩)
 go_upto_region 4 with fail
 go_cut [8] (fun c wx=>∃ h:Nat,c=.pointer (some ⟨h,0,none⟩)/\Hid (wx.heap[h]?=some (.cells #[.string kt,.slice KA nf KC,.int .i64 km,.string ku] 52 (0,0)))/\Hid (Below w1.heap.size w1 wx))
 case first=>
  go_region_held3 (fun w':World=>w'.cell? ⟨w.heap.size,0,none⟩=some (.int .u8 m)/\w'.cell? ⟨w.heap.size,1,none⟩=some (.int .u8 q)/\w'.cell? ⟨w.heap.size,2,none⟩=some (.slice (some ⟨kb,ko,none⟩) nk cp)/\w'.cell? ⟨w.heap.size,3,none⟩=some (.string hd)/\w'.cell? ⟨w.heap.size,4,none⟩=some (.string tl)/\w'.cell? ⟨w.heap.size,5,none⟩=some (.string ct)/\w'.cell? ⟨w.heap.size,6,none⟩=some (.string sm)/\w'.cell? ⟨kb,ko+kk*4,none⟩=some (.string kt)/\w'.cell? ⟨kb,ko+kk*4+1,none⟩=some (.slice KA nf KC)/\w'.cell? ⟨kb,ko+kk*4+2,none⟩=some (.int .i64 km)/\w'.cell? ⟨kb,ko+kk*4+3,none⟩=some (.string ku))
   (first | (with_reducible exact HSB.out _ T2) | (with_reducible exact HSB.out _ (T2.alloc T2.size _)) | (refine HSB.out _ ?_;go_grown))
   (first | (go_at_call 27;refine (HKA.out _ (by first | exact QK.out | exact QK.out.below (by go_grown))).mono ?_;rintro e w3 ⟨rfl,hb3'⟩;(have T2:Below w1.heap.size w1 w3:=Qab hb3' (by go_grown) (by first | exact Nat.le_refl _ | (simp only [World.size_alloc,World.size_drew];omega)));(first | (have hN3:=news1d hb3';obtain ⟨⟨y0,y1,y2,y3⟩,y5,y4⟩:=Qaw hN3) | skip)))
  ·go_wp2_with fail
   go_meet
   exact ⟨w3.heap.size,rfl,Hd (Qac _ _ rfl),Hd (T2.alloc T2.size _)⟩
  ·go_wp2_with fail
   go_meet
   exact ⟨w1.heap.size,rfl,Hd (Qae (Qae (Qae (Qae hN3 0 _) 1 _) 2 _) 3 _),Hd ((((T2.setCell (p:=⟨w1.heap.size,0,none⟩) (Nat.le_refl _) _).setCell (p:=⟨w1.heap.size,1,none⟩) (Nat.le_refl _) _).setCell (p:=⟨w1.heap.size,2,none⟩) (Nat.le_refl _) _).setCell (p:=⟨w1.heap.size,3,none⟩) (Nat.le_refl _) _)⟩
 case rest=>
 obtain ⟨KB,rfl,HKB,HBK⟩:=hcut
 have HW2:=Hd (show ∀ wx,Below wc.heap.size wc wx->wx.heap[w.heap.size]?=some (.cells #[.int .u8 m,.int .u8 q,.slice (some ⟨kb,ko,none⟩) nk cp,.string hd,.string tl,.string ct,.string sm] 24 (0,0))/\wx.heap[KB]?=some (.cells #[.string kt,.slice KA nf KC,.int .i64 km,.string ku] 52 (0,0))/\Kinds wx (some ⟨kb,ko,none⟩) ks FA FC/\RowsM wx (some ⟨b,off,none⟩) rs RA RC/\Below w.heap.size w wx from fun wx h=>by
  have h2:=Qab h HBK.out HBK.out.size
  obtain ⟨g1,g2,g3,g4⟩:=HW.out wx h2
  exact ⟨g1,Qaa HKB.out h,g2,g3,g4⟩)
 clear T1 HSB HKB HBK HKA QK Q1 HKC
 obtain ⟨q1,q2,-,-,-⟩:=HW2.out _ (Below.refl _ _)
 obtain ⟨⟨k0,k1,k2,k3⟩,-,-⟩:=Qaw q2
 have e1:=Qah ku
 obtain ⟨S0,hS0⟩:=ex_ (decide (ku=⟨#[]⟩))
 rw [hS0] at e1
 have HS0:=Hd hS0
 clear hS0 q1 q2
 generalize wc=wk at HW2 k0 k1 k2 k3 ⊢
 go_upto_if 61 with fail
 go_cut [9] (fun v wx=>∃ FR:Nat,v=.int .i64 (FR:Int)/\FR<=i/\Hid (FI=(FR:Int))/\Hid (Below wk.heap.size wk wx))
 case first=>
  cases hS:S0 with
  | true=>
   have hse:=of_decide_eq_true (HS0.out.trans hS)
   have HE:=Hd (show FI=((0:Nat):Int) by rw [HFI.out,if_pos hse];rfl)
   clear hS hse
   go_wp2
   go_meet
   exact ⟨0,rfl,Nat.zero_le _,HE,Hd (Below.refl _ _)⟩
  | false=>
   have hsn:=of_decide_eq_false (HS0.out.trans hS)
   have HSN:=Hd hsn
   have HE:=Hd (show FI=OV ku by rw [HFI.out,if_neg hsn])
   have HB0:=Hd (Below.refl wk.heap.size wk)
   clear hS hsn
   go_wp2_with fail
   clear k0 k1 k2 k3
   go_loopw [10,63] (fun x y wr=>∃ j:Nat,j<=i/\x=.int .i64 (LI ku j)/\y=.int .i64 (j:Int)/\Hid (Below wk.heap.size wk wr)) (fun _ y _=>i-(intOf y).toNat)
   case atStart=>exact ⟨0,Nat.zero_le _,by rw [HL0.out],rfl,HB0⟩
   case round=>
    clear HB0
    obtain ⟨j,hj,rfl,rfl,HB⟩:=hrel
    obtain ⟨-,q2,-,ql,qb⟩:=HW2.out _ HB.out
    have QB:=Hd qb
    rcases Nat.lt_or_ge j i with hlt | hge
    ·obtain ⟨b',off',hbe,hbk,c0,c1⟩:=ql.cells (j:=j) (by rw [HNR.out];omega)
     cases hbe
     have HLS:=Hd (HL1.out ku j)
     obtain ⟨⟨k0,k1,k2,k3⟩,-,-⟩:=Qaw q2
     obtain ⟨tg,htg⟩:=ex_ ((rA rs j).tag)
     rw [htg] at c0 HLS
     have e2:=Qap tg ku
     have hjr:(j:Int)<(nr:Int):=by omega
     have hj0:(0:Int)<=(j:Int):=by omega
     clear htg q2 ql qb c1
     by_cases h1:tg=ku
     ·have HN:=Hd (show LI ku (j+1)=(j:Int) by rw [HLS.out,if_pos h1])
      rw [decide_eq_true h1] at e2
      clear h1
      go_wp2_with fail
      go_quiet (fail)
      go_wp2
      go_roundw
      case rel=>first | exact ⟨j+1,by omega,by rw [HN.out],by go_num,Hd (HB.out.trans ⟨rfl,rfl,rfl,Nat.le_refl _,fun _ _=>rfl⟩)⟩ | ((repeat apply Exists.intro);exact ⟨⟨j+1,by omega,by rw [HN.out],by go_num,Hd (HB.out.trans ⟨rfl,rfl,rfl,Nat.le_refl _,fun _ _=>rfl⟩)⟩,rfl⟩)
      case measure=>simp [intOf];omega
     ·have HN:=Hd (show LI ku (j+1)=LI ku j by rw [HLS.out,if_neg h1])
      rw [decide_eq_false h1] at e2
      clear h1
      go_wp2_with fail
      go_quiet (fail)
      go_wp2
      go_roundw
      case rel=>first | exact ⟨j+1,by omega,by rw [HN.out],by go_num,Hd (HB.out.trans ⟨rfl,rfl,rfl,Nat.le_refl _,fun _ _=>rfl⟩)⟩ | ((repeat apply Exists.intro);exact ⟨⟨j+1,by omega,by rw [HN.out],by go_num,Hd (HB.out.trans ⟨rfl,rfl,rfl,Nat.le_refl _,fun _ _=>rfl⟩)⟩,rfl⟩)
      case measure=>simp [intOf];omega
    ·obtain rfl:j=i:=by omega
     have hlr:=HLR.out ku j
     obtain ⟨LV,hLV⟩:=ex_ (LI ku j)
     have HLV:=Hd hLV
     rw [hLV] at hlr
     rw [hLV]
     clear hLV hge q2 ql qb
     rcases Int.lt_or_le LV 0 with hneg | hpos
     ·have HE2:=Hd (show R=8 by rw [<- HR2.out];exact if_pos (by rw [HE.out,HON2.out ku (by rw [HLV.out];exact hneg)];decide))
      go_wp2
      go_ret
      exact ⟨by rw [HE2.out];rfl,QB.out⟩
     obtain ⟨FR,hFR⟩:=ex_ (LV.toNat)
     have hOF:LV=(FR:Int):=by omega
     subst hOF
     have hn:¬ ((FR:Int)<0):=by omega
     obtain ⟨F1,hF1⟩:=ex_ (FR+1)
     have HF1:=Hd hF1
     obtain ⟨nn,hnn⟩:=ex_ (j-F1)
     have HNN:=Hd hnn
     have hwi:IntKind.i64.wrap ((FR:Int)+1)=(F1:Int):=by rw [show (FR:Int)+1=(F1:Int) by omega];exact IntWalk.i64_in _ (by omega)
     have g0:(0:Int)<=(F1:Int):=by omega
     have g1:(0:Int)<=(j:Int):=by omega
     have g2:(F1:Int)<=(j:Int):=by omega
     have g3:(j:Int)<=(LC:Int):=by omega
     have g4:¬ LC=F1:=by omega
     have g6:j-F1=nn:=hnn
     have HBb:=HB
     clear hFR hpos hF1 hnn QB hlr
     go_wp2_with fail
     go_loopw [84] (fun x wr=>∃ a:Nat,a<=nn/\x=.int .i64 (a:Int)/\Hid (∀ t,FR<t->t<F1+a->UB (rA rs t).tag ku=true)/\Hid (Below wk.heap.size wk wr)) (fun x _=>nn-(intOf x).toNat)
     case atStart=>exact ⟨0,Nat.zero_le _,rfl,Hd (fun t h1 h2=>by have:=HF1.out;omega),HBb⟩
     case round=>
      clear HBb HB
      obtain ⟨a,ha,rfl,HA,HB⟩:=hrel
      obtain ⟨q1,q2,qk,ql,qb⟩:=HW2.out _ HB.out
      have QB:=Hd qb;have Q1:=Hd q1;have QK:=Hd qk;have Q2:=Hd q2
      rcases Nat.lt_or_ge a nn with hlt | hge
      ·have hma:F1+a<nr:=by have:=HNN.out;omega
       obtain ⟨b',off',hbe,hbk,c0,c1⟩:=ql.cells (j:=F1+a) (by rw [HNR.out];exact hma)
       cases hbe
       rw [show off+(F1+a)*2=off+F1*2+a*2 by omega] at c0 c1
       have HUC:=Hd (fun w h=>HUN.out (F1+a) hma ku HSN.out w h)
       have HUV:=Hd (show ∀ v,UB (rA rs (F1+a)).tag ku=v->UB (rA rs (F1+a)).tag ku=v from fun _ h=>h)
       obtain ⟨r,hr⟩:=ex_ (rA rs (F1+a))
       have HRE:=Hd hr
       rw [hr] at c0 c1 HUC
       generalize RA (F1+a)=RJ at c1
       generalize RC (F1+a)=CJ at c1
       obtain ⟨rt2,vs⟩:=r
       simp only at c0 c1 HUC
       obtain ⟨nv,hnv⟩:=ex_ (vs.length)
       rw [hnv] at c1
       have hRD:=Qac wr (.cells #[.string rt2,.slice RJ nv CJ] 49) rfl
       have HB2:=Hd (HB.out.alloc HB.out.size (.cells #[.string rt2,.slice RJ nv CJ] 49))
       obtain ⟨U,hU⟩:=ex_ (UB rt2 ku)
       rw [hU] at HUC
       have HU:=Hd (show UB (rA rs (F1+a)).tag ku=U by rw [HRE.out];exact hU)
       clear hr hnv q1 q2 qk ql qb hU
       go_upto_region 19 with fail
       obtain ⟨rb,hrb⟩:=ex_ (wr.heap.size)
       rw [hrb] at hRD
       try rw [hrb]
       generalize wr.alloc (.cells #[.string rt2,.slice RJ nv CJ] 49)=w2 at hRD HB2 ⊢
       obtain ⟨r0,r1,-,-,-⟩:=box2 hRD
       clear hrb c0 c1 hbk hRD HB Q1 QK Q2
       obtain ⟨q1,q2,qk,-,-⟩:=HW2.out _ HB2.out
       obtain ⟨⟨p0,p1,p2,p3,p4,p5,p6⟩,-⟩:=Qai q1
       obtain ⟨⟨k0,k1,k2,k3⟩,-,-⟩:=Qaw q2
       have QK:=Hd qk
       clear q1 q2 qk
       go_wp2_with fail
       refine (HUC.out _ QK.out).mono ?_
       rintro _ w3 ⟨rfl,hb3⟩
       have HB3:=Hd (Qab hb3 HB2.out HB2.out.size)
       have QB3:=Hd (HW2.out _ HB3.out).2.2.2.2
       clear p0 p1 p2 p3 p4 p5 p6 k0 k1 k2 k3 hb3 HB2 QK r0 r1 QB
       cases hU2:U with
       | true=>
        have HA2:=Hd (show ∀ t,FR<t->t<F1+(a+1)->UB (rA rs t).tag ku=true from fun t h1 h2=>by
         rcases Nat.lt_or_ge t (F1+a) with h | h
         ·exact HA.out t h1 h
         ·obtain rfl:t=F1+a:=by omega
          exact HU.out.trans hU2)
        clear hU2
        go_wp2
        go_roundw
        case rel=>first | exact ⟨a+1,by omega,by go_num,HA2,HB3⟩ | ((repeat apply Exists.intro);exact ⟨⟨a+1,by omega,by go_num,HA2,HB3⟩,rfl⟩)
        case measure=>simp [intOf];omega
       | false=>
        have HE2:=Hd (show R=8 by rw [<- HR2.out];exact if_pos (by rw [HE.out,HOB2.out ku FR (F1+a) HLV.out (by have:=HF1.out;omega) (by have:=HNN.out;omega) (HU.out.trans hU2)];decide))
        clear hU2
        go_wp2
        go_ret
        exact ⟨by rw [HE2.out];rfl,QB3.out⟩
      ·obtain rfl:a=nn:=by omega
       have HF:=Hd (show FI=(FR:Int) from HE.out.trans (HOH2.out ku FR HLV.out (fun t h1 h2=>HA.out t h1 (by have:=HNN.out;omega))))
       clear q1 q2 qk ql qb
       go_wp2
       go_meet
       exact ⟨FR,rfl,by have:=HF1.out;omega,HF,HB⟩
 case rest=>
 obtain ⟨FR,rfl,hFR,HF,HB⟩:=hcut
 have HR3:=Hd ((if_neg (by rw [HF.out];omega)).symm.trans HR2.out)
 rw [HF.out,Int.toNat_natCast] at HR3
 clear k0 k1 k2 k3 e1 HR2 QB HFI
 obtain ⟨nn,hnn⟩:=ex_ (i+1-FR)
 have HNN:=Hd hnn
 rw [hnn] at HR3
 have hwi:IntKind.i64.wrap ((i:Int)+1)=(i:Int)+1:=IntWalk.i64_in _ (by omega)
 have g1:(0:Int)<=(FR:Int):=by omega
 have g2:(FR:Int)<=(i:Int)+1:=by omega
 have g3:(i:Int)+1<=(LC:Int):=by omega
 have g4:¬ LC=FR:=by omega
 have g5:((i:Int)+1).toNat-FR=nn:=by omega
 have g6:i+1-FR=nn:=hnn
 go_wp2_with fail
 go_loopw [103,14] (fun x y wr=>∃ j:Nat,j<=nn/\x=.int .i64 (j:Int)/\y=.int .i64 ((MN FR j:Nat):Int)/\Hid (Below wk.heap.size wk wr)) (fun x _ _=>nn-(intOf x).toNat)
 case atStart=>exact ⟨0,Nat.zero_le _,rfl,by rw [HM0.out];rfl,HB⟩
 case round=>
  clear HB
  obtain ⟨j,hj,rfl,rfl,HB⟩:=hrel
  have hml:=HML.out FR j
  obtain ⟨-,q2,-,ql,qb⟩:=HW2.out _ HB.out
  have QB:=Hd qb
  rcases Nat.lt_or_ge j nn with hlt | hge
  ·obtain ⟨b',off',hbe,hbk,c0,c1⟩:=ql.cells (j:=FR+j) (by rw [HNR.out];omega)
   cases hbe
   have HMS:=Hd (HM1.out FR j)
   obtain ⟨MJ,hMJ⟩:=ex_ (MN FR j)
   rw [hMJ] at HMS hml
   rw [hMJ]
   rw [show off+(FR+j)*2=off+FR*2+j*2 by omega] at c0 c1
   obtain ⟨r,hr⟩:=ex_ (rA rs (FR+j))
   rw [hr] at c0 c1 HMS
   generalize RA (FR+j)=RJ at c1
   generalize RC (FR+j)=CJ at c1
   obtain ⟨rt2,vs⟩:=r
   simp only at c0 c1 HMS
   obtain ⟨nv,hnv⟩:=ex_ (vs.length)
   rw [hnv] at c1
   have hRD:=Qac wr (.cells #[.string rt2,.slice RJ nv CJ] 49) rfl
   have HB2:=Hd (HB.out.alloc HB.out.size (.cells #[.string rt2,.slice RJ nv CJ] 49))
   have e1:=Qap rt2 rt
   clear hMJ hr hnv q2 ql qb
   go_upto_region 27 with fail
   obtain ⟨rb,hrb⟩:=ex_ (wr.heap.size)
   rw [hrb] at hRD
   try rw [hrb]
   generalize wr.alloc (.cells #[.string rt2,.slice RJ nv CJ] 49)=w2 at hRD HB2 ⊢
   obtain ⟨r0,r1,-,-,-⟩:=box2 hRD
   clear hrb c0 c1 hbk hRD HB QB
   by_cases h1:rt2=rt
   ·have HN:=Hd (show MN FR (j+1)=MJ+1 by rw [HMS.out,if_pos h1])
    rw [decide_eq_true h1] at e1
    clear h1
    go_wp2
    go_roundw
    case rel=>exact ⟨j+1,by omega,by go_num,by rw [HN.out];go_num,HB2⟩
    case measure=>simp [intOf];omega
   ·have HN:=Hd (show MN FR (j+1)=MJ by rw [HMS.out,if_neg h1];rfl)
    rw [decide_eq_false h1] at e1
    clear h1
    go_wp2
    go_roundw
    case rel=>exact ⟨j+1,by omega,by go_num,by rw [HN.out],HB2⟩
    case measure=>simp [intOf];omega
  ·obtain rfl:j=nn:=by omega
   obtain ⟨⟨k0,k1,k2,k3⟩,-,-⟩:=Qaw q2
   obtain ⟨MJ,hMJ⟩:=ex_ (MN FR j)
   have HR5:=HR3.out
   rw [hMJ] at HR5
   rw [hMJ]
   have HR5:=Hd HR5
   clear hMJ q2 ql qb
   by_cases hm0:km=0
   ·have HE:=Hd (show R=0 by rw [<- HR5.out];exact if_pos hm0)
    have hm1:(km !=0)=false:=by simp [hm0]
    clear hm0
    go_wp2
    go_ret
    exact ⟨by rw [HE.out];rfl,QB.out⟩
   have hm1:(km !=0)=true:=by simpa using hm0
   have HR6:=Hd ((if_neg hm0).symm.trans HR5.out)
   clear hm0
   by_cases hkm:km<(MJ:Int)
   ·have HE:=Hd (show R=2 by rw [<- HR6.out];exact if_pos hkm)
    go_wp2
    go_ret
    exact ⟨by rw [HE.out];rfl,QB.out⟩
   ·have HE:=Hd (show R=0 by rw [<- HR6.out];exact if_neg hkm)
    go_wp2
    go_ret
    exact ⟨by rw [HE.out];rfl,QB.out⟩
end Go.Proofs.YtaiabjiehpcaoaaGreatDoor
