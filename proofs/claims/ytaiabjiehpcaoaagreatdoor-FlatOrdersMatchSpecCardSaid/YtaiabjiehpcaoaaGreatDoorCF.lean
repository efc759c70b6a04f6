
/- The walk of the reference's sum of rows. (Printed by genCF.py.) -/
import Derived.Test.YtaiabjiehpcaoaaGreatDoorCE
import Derived.Test.YtaiabjiehpcaoaaGreatDoorY9
set_option maxHeartbeats 8000000
set_option maxRecDepth 100000
namespace Go.Proofs.YtaiabjiehpcaoaaGreatDoor
open Go.RowKit Limb Nmb Work
set_option linter.unusedVariables false
set_option linter.unusedSimpArgs false
def RetSu (b:Bool) (z:Int) (w:World) (e:Ending) (w':World):Prop :=
 ∃ s A n c,e=.returned (.tuple #[.agg #[.bool s,.slice A n c],.int .i64 (if b=true then 6 else 0)])/\(b=false->Big .i64 3 B6 w' s A n c z)/\Below w.heap.size w w'
theorem RetSu.of {b:Bool} {z:Int} {w w':World} {s:Bool} {A:Option Addr} {n c:Nat} {x:Int} (hx:x=if b=true then 6 else 0) (hg:b=false->Big .i64 3 B6 w' s A n c z) (hb:Below w.heap.size w w'):RetSu b z w (.returned (.tuple #[.agg #[.bool s,.slice A n c],.int .i64 x])) w':=⟨s,A,n,c,by rw [hx],hg,hb⟩
theorem sumZr_pre (f:Fmt) (t n:ByteArray) (l:List RowP) (r:RowP):∀ k,k<=l.length->Qa8 f t n (l++[r]) k=Qa8 f t n l k
 | 0,_=>rfl
 | k+1,h=>by
  show Qa8 f t n (l++[r]) k+rowZ f t n (rA (l++[r]) k)=_
  rw [sumZr_pre f t n l r k (by omega),rA_snoc,if_neg (by omega)]
  rfl
theorem rowZ_bd (f:Fmt) (t n:ByteArray) (r:RowP) : -1000000000000000000000000<=rowZ f t n r/\rowZ f t n r<=1000000000000000000000000:=by
 unfold rowZ
 split
 ·decide
 ·exact scl_bd (Qbz _)
theorem sumZr_bd (f:Fmt) (t n:ByteArray) (l:List RowP):∀ k:Nat,-((k:Int)*1000000000000000000000000)<=Qa8 f t n l k/\Qa8 f t n l k<=(k:Int)*1000000000000000000000000
 | 0=>by show -(0*_)<=(0:Int)/\(0:Int)<=0*_;omega
 | k+1=>by
  have h1:=sumZr_bd f t n l k
  have h2:=rowZ_bd f t n (rA l k)
  show _<=Qa8 f t n l k+rowZ f t n (rA l k)/\Qa8 f t n l k+rowZ f t n (rA l k)<=_
  omega
def sznL (f:Fmt) (rs:List RowP) (j:Nat):Int:=Qa8 f ⟨#[]⟩ f.sum (innL f (rs.take j)) (innL f (rs.take j)).length
theorem sznL_succ {f:Fmt} {rs:List RowP} {j:Nat} (h:j<rs.length):sznL f rs (j+1)=sznL f rs j+(if endB f (rA rs j)=true then 0 else rowZ f ⟨#[]⟩ f.sum (rA rs j)):=by
 unfold sznL
 rw [inn_take h]
 split
 ·rw [List.append_nil,Int.add_zero]
 ·rw [List.length_append]
  show Qa8 f ⟨#[]⟩ f.sum _ (innL f (rs.take j)).length+rowZ f ⟨#[]⟩ f.sum _=_
  rw [sumZr_pre _ _ _ _ _ _ (Nat.le_refl _),rA_last]
theorem sznL_bd (f:Fmt) {rs:List RowP} (hl:rs.length<=1000000000000000) (j:Nat) (hj:j<=rs.length) : -1000000000000000000000000000000000000000<=sznL f rs j/\sznL f rs j<=1000000000000000000000000000000000000000:=by
 have h1:=sumZr_bd f ⟨#[]⟩ f.sum (innL f (rs.take j)) (innL f (rs.take j)).length
 have h2:=Nat.le_trans (inn_len f (rs.take j)) (List.length_take_le j rs)
 unfold sznL
 have h3:(((innL f (rs.take j)).length:Nat):Int)<=1000000000000000:=by omega
 omega
theorem sznL_end (f:Fmt) (rs:List RowP):sznL f rs rs.length=Qa8 f ⟨#[]⟩ f.sum (innL f rs) (innL f rs).length:=by unfold sznL;rw [List.take_length]
theorem any_succ {f:Fmt} {rs:List RowP} {j:Nat} (h:j<rs.length):(innL f (rs.take (j+1))).any (badB f)=((innL f (rs.take j)).any (badB f)||(!endB f (rA rs j)&&badB f (rA rs j))):=by
 rw [inn_take h,List.any_append]
 congr 1
 cases endB f (rA rs j)<;>simp
theorem any_row {f:Fmt} {rs:List RowP} {j:Nat} (h:j<rs.length) (h1:endB f (rA rs j)=false) (h2:badB f (rA rs j)=true):(innL f rs).any (badB f)=true :=
 List.any_eq_true.2 ⟨rA rs j,List.mem_filter.2 ⟨rA_mem h,by rw [h1];rfl⟩,h2⟩
theorem rsum_c (f:Fmt) (A:Option Addr) (cp:Nat) (FA:Nat->Option Addr) (FC:Nat->Nat) (L:Option Addr) (LC:Nat) (rs:List RowP) (RA:Nat->Option Addr) (RC:Nat->Nat) (w:World) (ho:Kinds w A f.kinds FA FC) (hl:RowsM w L rs RA RC) (hcp:f.kinds.length<=cp) (hrk:∀ j,j<rs.length->RowK f (rA rs j)) (hlim:rs.length<=1000000000000000) (hks:0<f.kinds.length) :
  Calls Tryz.prog 44 #[fmtG f A cp,.slice L rs.length LC] w (RetSu ((innL f rs).any (badB f)) (Qa8 f ⟨#[]⟩ f.sum (innL f rs) (innL f rs).length) w):=by
 have HKA:=Hd (fun t w h=>Qbg f A cp FA FC t w h)
 have HIE:=Hd (fun j w=>risend_c f A cp (rA rs j) (RA j) (RC j) w)
 have HCC:=Hd (fun t=>QaX f FA FC t)
 have HKI:=Hd ho;have HLM:=Hd hl;have HRK:=Hd hrk
 have hnr:=hl.len
 have hnk:=ho.1.2
 rw [<- sznL_end f rs]
 have HS1:=Hd (fun j (h:j<rs.length)=>sznL_succ (f:=f) h)
 have HS0:=Hd (show sznL f rs 0=0 from rfl)
 have HBD:=Hd (fun j (h:j<=rs.length)=>sznL_bd f hlim j h)
 have HA1:=Hd (fun j (h:j<rs.length)=>any_succ (f:=f) h)
 have HA0:=Hd (show (innL f (rs.take 0)).any (badB f)=false from rfl)
 have HAE:=Hd (show (innL f (rs.take rs.length)).any (badB f)=(innL f rs).any (badB f) by rw [List.take_length])
 have HAR:=Hd (fun j (h:j<rs.length)=>any_row (f:=f) h)
 have HBB:=Hd (show ∀ r,badB f r=(decide (0<=ixF (Qaj f.sum) (katK f r.tag).fields)&&decide ((cA (katK f r.tag).fields (ixF (Qaj f.sum) (katK f r.tag).fields).toNat).kind≠2)) from fun _=>rfl)
 obtain ⟨SZ,hSZ⟩:=ex_ (sznL f rs)
 rw [hSZ] at HS1 HS0 HBD ⊢
 obtain ⟨AN,hAN⟩:∃ x:Nat->Bool,(fun j=>(innL f (rs.take j)).any (badB f))=x:=⟨_,rfl⟩
 have hANa:∀ j,(innL f (rs.take j)).any (badB f)=AN j:=fun j=>by rw [<- hAN]
 have HAN1:Hid (∀ j,j<rs.length->AN (j+1)=(AN j||(!endB f (rA rs j)&&badB f (rA rs j)))):=Hd (fun j h=>by rw [<- hANa,<- hANa];exact HA1.out j h)
 rw [hANa] at HA0 HAE
 clear HA1
 obtain ⟨R,hR⟩:=ex_ ((innL f rs).any (badB f))
 rw [hR] at HAE HAR ⊢
 unfold RetB at HIE
 obtain ⟨EB,hEB⟩:=ex_ (endB f)
 obtain ⟨BB,hBB⟩:=ex_ (badB f)
 rw [hEB] at HIE HS1 HAN1 HAR
 rw [hBB] at HAN1 HAR HBB
 clear ho hl hrk hSZ hAN hANa hR hEB hBB
 obtain ⟨kb,ko,rfl,-,-,-,-,-⟩:=HKI.out.cells hks
 obtain ⟨m,q,ks,hd,tl,ct,sm⟩:=f
 unfold fmtG at HKA HIE ⊢
 simp only at HKA HIE HKI HBB hcp hnk hks ⊢
 obtain ⟨nk,hnk2⟩:=ex_ (ks.length)
 have HNK:=Hd hnk2
 rw [hnk2] at HKA HIE hcp hnk hks ⊢
 obtain ⟨nr,hnr2⟩:=ex_ (rs.length)
 have HNR:=Hd hnr2
 rw [hnr2] at hnr hlim HS1 HBD HAN1 HAE HAR ⊢
 clear hnk2 hnr2
 have hF0:=Qad (Qad (Qac w (.cells #[.int .u8 m,.int .u8 q,.slice (some ⟨kb,ko,none⟩) nk cp,.string hd,.string tl,.string ct,.string sm] 24) rfl) (.cells #[.bool false,.slice none 0 0] 77)) (.cells #[.bool false,.slice none 0 0] 77)
 have hZ0:=Qad (Qac (w.alloc (.cells #[.int .u8 m,.int .u8 q,.slice (some ⟨kb,ko,none⟩) nk cp,.string hd,.string tl,.string ct,.string sm] 24)) (.cells #[.bool false,.slice none 0 0] 77) (g:=w.heap.size+1) (by simp)) (.cells #[.bool false,.slice none 0 0] 77)
 have hN0:=Qac ((w.alloc (.cells #[.int .u8 m,.int .u8 q,.slice (some ⟨kb,ko,none⟩) nk cp,.string hd,.string tl,.string ct,.string sm] 24)).alloc (.cells #[.bool false,.slice none 0 0] 77)) (.cells #[.bool false,.slice none 0 0] 77) (g:=w.heap.size+2) (by simp)
 have hF4:=Qad (Qac w (.cells #[.int .u8 m,.int .u8 q,.slice (some ⟨kb,ko,none⟩) nk cp,.string hd,.string tl,.string ct,.string sm] 24) rfl) (.cells #[.bool false,.slice none 0 0] 77)
 have hZ4:=Qac (w.alloc (.cells #[.int .u8 m,.int .u8 q,.slice (some ⟨kb,ko,none⟩) nk cp,.string hd,.string tl,.string ct,.string sm] 24)) (.cells #[.bool false,.slice none 0 0] 77) (g:=w.heap.size+1) (by simp)
 have hB4:Below w.heap.size w ((w.alloc (.cells #[.int .u8 m,.int .u8 q,.slice (some ⟨kb,ko,none⟩) nk cp,.string hd,.string tl,.string ct,.string sm] 24)).alloc (.cells #[.bool false,.slice none 0 0] 77)):=by go_grown
 have hBN:Below (w.heap.size+2) ((w.alloc (.cells #[.int .u8 m,.int .u8 q,.slice (some ⟨kb,ko,none⟩) nk cp,.string hd,.string tl,.string ct,.string sm] 24)).alloc (.cells #[.bool false,.slice none 0 0] 77)) (((w.alloc (.cells #[.int .u8 m,.int .u8 q,.slice (some ⟨kb,ko,none⟩) nk cp,.string hd,.string tl,.string ct,.string sm] 24)).alloc (.cells #[.bool false,.slice none 0 0] 77)).alloc (.cells #[.bool false,.slice none 0 0] 77)):=by
  have h:((w.alloc (.cells #[.int .u8 m,.int .u8 q,.slice (some ⟨kb,ko,none⟩) nk cp,.string hd,.string tl,.string ct,.string sm] 24)).alloc (.cells #[.bool false,.slice none 0 0] 77)).heap.size=w.heap.size+2:=by simp
  rw [<- h]
  go_grown
 have HG4:Hid (Big .i64 3 B6 (((w.alloc (.cells #[.int .u8 m,.int .u8 q,.slice (some ⟨kb,ko,none⟩) nk cp,.string hd,.string tl,.string ct,.string sm] 24)).alloc (.cells #[.bool false,.slice none 0 0] 77)).alloc (.cells #[.bool false,.slice none 0 0] 77)) false none 0 0 0):=Hd ⟨[],Dig.nil_,Nat.le_refl _,Nat.zero_le _,Digs.nil _,norm_nil,by decide,by simp [sg,val]⟩
 have hw4:((w.alloc (.cells #[.int .u8 m,.int .u8 q,.slice (some ⟨kb,ko,none⟩) nk cp,.string hd,.string tl,.string ct,.string sm] 24)).alloc (.cells #[.bool false,.slice none 0 0] 77)).heap.size=w.heap.size+2:=by simp
 go_enter Tryz.func44,Tryz.ntmps44
 go_upto_region 2 with fail
 obtain ⟨SB,hSB⟩:=ex_ (w.heap.size+2)
 rw [hSB] at hN0 hBN hw4
 try rw [hSB]
 generalize hw5:((w.alloc (.cells #[.int .u8 m,.int .u8 q,.slice (some ⟨kb,ko,none⟩) nk cp,.string hd,.string tl,.string ct,.string sm] 24)).alloc (.cells #[.bool false,.slice none 0 0] 77)).alloc (.cells #[.bool false,.slice none 0 0] 77)=w5 at hF0 hZ0 hN0 hBN HG4 ⊢
 clear hw5 hF0 hZ0
 generalize (w.alloc (.cells #[.int .u8 m,.int .u8 q,.slice (some ⟨kb,ko,none⟩) nk cp,.string hd,.string tl,.string ct,.string sm] 24)).alloc (.cells #[.bool false,.slice none 0 0] 77)=w4 at hF4 hZ4 hB4 hBN hw4
 have HF:=Hd (show ∀ wr,Below SB w4 wr->wr.heap[w.heap.size]?=some (.cells #[.int .u8 m,.int .u8 q,.slice (some ⟨kb,ko,none⟩) nk cp,.string hd,.string tl,.string ct,.string sm] 24 (0,0))/\wr.heap[w.heap.size+1]?=some (.cells #[.bool false,.slice none 0 0] 77 (0,0))/\Kinds wr (some ⟨kb,ko,none⟩) ks FA FC/\RowsM wr L rs RA RC/\Below w.heap.size w wr from fun wr h=>by
  have h':Below w4.heap.size w4 wr:=by rw [hw4];exact h
  have h2:=Qab h' hB4 hB4.size
  exact ⟨Qaa hF4 h',Qaa hZ4 h',HKI.out.below h2,HLM.out.below h2,h2⟩)
 have HSBN:=Hd hSB
 have HFB:=Hd (fun wr h=>(HF.out wr h).2.2.2.2)
 have HBN:=Hd hBN;have HN4:=Hd hN0
 clear hF4 hZ4 hB4 hBN hw4 hN0 hSB
 obtain ⟨N,hN⟩:=ex_ (w.heap.size)
 have HNE:=Hd hN
 rw [hN] at HF
 have HSBN:Hid (N+2=SB):=Hd (by rw [<- hN];exact HSBN.out)
 try rw [hN]
 clear hN
 go_wp2_with fail
 go_loopw [15] (fun i wr=>∃ j:Nat,j<=nr/\i=.int .i64 (j:Int)/\Hid (AN j=false)/\Hid (SumSt SB wr (SZ j))/\Hid (Below SB w4 wr)) (fun i _=>nr-(intOf i).toNat)
 case atStart=>exact ⟨0,Nat.zero_le _,rfl,HA0,Hd ⟨false,none,0,0,by rw [HS0.out];exact HG4.out,HN4.out⟩,HBN⟩
 case round=>
  clear HN4 HBN HG4
  obtain ⟨j,hj,rfl,HAJ,HX,HB⟩:=hrel
  obtain ⟨s,SA,sn,sc,hG,hS⟩:=HX.out
  have HG:=Hd hG;have HS:=Hd hS
  clear HX hG hS
  have hzr:SB<wr.heap.size:=Qan HS.out
  rcases Nat.lt_or_ge j nr with hlt | hge
  ·have hjl:j<rs.length:=by rw [HNR.out];exact hlt
   obtain ⟨q1,-,-,ql,-⟩:=HF.out _ HB.out
   obtain ⟨b,off,rfl,hbk,c0,c1⟩:=ql.cells (j:=j) hjl
   have HRJ:=Hd (ql.each j hjl)
   have HRO:=Hd (HRK.out j hjl)
   have HSJ:=Hd (HS1.out j hlt)
   have HAJ1:=Hd (HAN1.out j hlt)
   have HARJ:=Hd (HAR.out j hlt)
   have HIJ:=Hd (HIE.out j)
   have HBJ:=Hd (HBD.out j hj)
   have HBJ2:=Hd (HBD.out (j+1) hlt)
   have HBBJ:=Hd (HBB.out (rA rs j))
   obtain ⟨z,hz⟩:=ex_ (SZ j)
   rw [hz] at HG HSJ HBJ
   obtain ⟨r,hr⟩:=ex_ (rA rs j)
   obtain ⟨RJ,hRJ⟩:=ex_ (RA j)
   obtain ⟨CJ,hCJ⟩:=ex_ (RC j)
   rw [hr,hRJ,hCJ] at HRJ HIJ
   rw [hr] at c0 HRO HSJ HAJ1 HARJ HBBJ
   rw [hr,hRJ,hCJ] at c1
   obtain ⟨EU,hEU⟩:=ex_ (EB r)
   obtain ⟨BU,hBU⟩:=ex_ (BB r)
   rw [hEU] at HIJ HSJ HAJ1 HARJ
   rw [hBU] at HAJ1 HARJ HBBJ
   clear hr hRJ hCJ hz hEU hBU hjl ql
   obtain ⟨rt,vs⟩:=r
   have HKJ:=Hd (fun w h=>HKA.out rt w h)
   have hmany:=HRO.out.many
   have hkind:=HRO.out.kind
   have HCJ:=HCC.out rt
   rcases HCJ with ⟨h1,-⟩|⟨kk,hk,h1,h2,-,-⟩
   ·simp only at hkind;omega
   have h1':ixF (Qav rt) ks=(kk:Int):=h1
   rw [h1'] at HKJ
   unfold rowG at HIJ
   simp only at hmany hkind c0 c1 HIJ HBBJ HRJ
   have HRZ:=Hd (show rowZ ⟨m,q,ks,hd,tl,ct,sm⟩ ⟨#[]⟩ sm ⟨rt,vs⟩=if ixF (Qaj sm) (kA ks kk).fields<0∨wd vs (ixF (Qaj sm) (kA ks kk).fields).toNat=⟨#[]⟩ then 0 else Qaz (Qag (wd vs (ixF (Qaj sm) (kA ks kk).fields).toNat).data.toList).1 (Qag (wd vs (ixF (Qaj sm) (kA ks kk).fields).toNat).data.toList).2.1 9 by unfold rowZ;simp only [ne_eq,not_true_eq_false,false_and,false_or];rw [h2])
   rw [h2] at hmany HBBJ
   have hkn:kk<nk:=by rw [<- HNK.out];exact hk
   have HCO:=Hd ((HKI.out).2.2 kk hk)
   have HCA:=Hd (fun w h=>QbQ (kA ks kk) (FA kk) (FC kk) sm w h)
   have HIX:=Hd (QaT (Qaj sm) (kA ks kk).fields)
   have HKC:=Hd (show ∀ wx,Below SB w4 wx->wx.cell? ⟨kb,ko+kk*4,none⟩=some (.string (kA ks kk).tag)/\wx.cell? ⟨kb,ko+kk*4+1,none⟩=some (.slice (FA kk) (kA ks kk).fields.length (FC kk))/\wx.cell? ⟨kb,ko+kk*4+2,none⟩=some (.int .i64 (kA ks kk).most)/\wx.cell? ⟨kb,ko+kk*4+3,none⟩=some (.string (kA ks kk).under) from fun wx h=>by
    obtain ⟨kb',ko',e,-,kc0,kc1,kc2,kc3⟩:=(HF.out wx h).2.2.1.cells hk
    cases e
    exact ⟨kc0,kc1,kc2,kc3⟩)
   obtain ⟨K,hK⟩:=ex_ (kA ks kk)
   rw [hK] at HCO HCA HIX HRZ HBBJ HKC hmany
   clear h1 h1' h2 hK hk hkind
   obtain ⟨kt,fs,km,ku⟩:=K
   unfold QaO at HCA
   simp only at HCO HCA HIX HRZ HBBJ HKC hmany
   obtain ⟨KA,hKA⟩:=ex_ (FA kk)
   obtain ⟨KC,hKC⟩:=ex_ (FC kk)
   rw [hKA,hKC] at HCO HCA HKC
   obtain ⟨nv,hnv⟩:=ex_ (vs.length)
   have HNV:=Hd hnv
   rw [hnv] at c1 HIJ hmany
   obtain ⟨nf,hnf⟩:=ex_ (fs.length)
   have HNF:=Hd hnf
   rw [hnf] at HCA HKC hmany HCO
   have hnfc:nf<=KC:=HCO.out.2
   have hnvc:nv<=CJ:=by rw [<- hnv];exact HRJ.out.len.1
   have hnvb:=HRJ.out.len.2
   have HMN:=Hd hmany
   clear hKA hKC hnv hnf hmany
   have hRD:=Qac wr (.cells #[.string rt,.slice RJ nv CJ] 49) rfl
   have hb5:Below wr.heap.size wr (wr.alloc (.cells #[.string rt,.slice RJ nv CJ] 49)):=by go_grown
   go_upto_region 5 with fail
   obtain ⟨rb,hrb⟩:=ex_ (wr.heap.size)
   rw [hrb] at hRD
   try rw [hrb]
   have hb5':Below SB w4 (wr.alloc (.cells #[.string rt,.slice RJ nv CJ] 49)):=HB.out.trans (hb5.mono (Nat.le_of_lt hzr))
   have HW5:=Hd (show ∀ wx,Below (wr.alloc (.cells #[.string rt,.slice RJ nv CJ] 49)).heap.size (wr.alloc (.cells #[.string rt,.slice RJ nv CJ] 49)) wx->wx.heap[N]?=some (.cells #[.int .u8 m,.int .u8 q,.slice (some ⟨kb,ko,none⟩) nk cp,.string hd,.string tl,.string ct,.string sm] 24 (0,0))/\wx.heap[rb]?=some (.cells #[.string rt,.slice RJ nv CJ] 49 (0,0))/\wx.heap[SB]?=some (.cells #[.bool s,.slice SA sn sc] 77 (0,0))/\Kinds wx (some ⟨kb,ko,none⟩) ks FA FC/\Big .i64 3 B6 wx s SA sn sc z/\RowM wx ⟨rt,vs⟩ RJ CJ/\wx.heap[N+1]?=some (.cells #[.bool false,.slice none 0 0] 77 (0,0))/\Below SB w4 wx from fun wx h=>by
    have h2:Below wr.heap.size wr wx:=Qab h hb5 hb5.size
    have h3:Below SB w4 wx:=HB.out.trans (h2.mono (Nat.le_of_lt hzr))
    obtain ⟨g1,g2,g3,g4,g5⟩:=HF.out wx h3
    exact ⟨g1,Qaa hRD h,Qaa HS.out h2,g3,HG.out.below h2,HRJ.out.below h2,g2,h3⟩)
   clear hrb c0 c1 hbk hb5 hb5' HRJ HG HS HB
   generalize wr.alloc (.cells #[.string rt,.slice RJ nv CJ] 49)=w5 at hRD HW5 ⊢
   clear hRD
   have T1:Below w5.heap.size w5 w5:=Below.refl _ _
   have HQK:=Hd (HW5.out _ T1).2.2.2.1
   have HSB:=Hd (show ∀ wx,Below w5.heap.size w5 wx->(fun w':World=>w'.cell? ⟨N,0,none⟩=some (.int .u8 m)/\w'.cell? ⟨N,1,none⟩=some (.int .u8 q)/\w'.cell? ⟨N,2,none⟩=some (.slice (some ⟨kb,ko,none⟩) nk cp)/\w'.cell? ⟨N,3,none⟩=some (.string hd)/\w'.cell? ⟨N,4,none⟩=some (.string tl)/\w'.cell? ⟨N,5,none⟩=some (.string ct)/\w'.cell? ⟨N,6,none⟩=some (.string sm)/\w'.cell? ⟨rb,0,none⟩=some (.string rt)/\w'.cell? ⟨kb,ko+kk*4,none⟩=some (.string kt)/\w'.cell? ⟨kb,ko+kk*4+1,none⟩=some (.slice KA nf KC)/\w'.cell? ⟨kb,ko+kk*4+2,none⟩=some (.int .i64 km)/\w'.cell? ⟨kb,ko+kk*4+3,none⟩=some (.string ku)) wx from fun wx h=>by
    obtain ⟨g1,g2,-,-,-,-,-,g8⟩:=HW5.out _ h
    obtain ⟨⟨f0,f1,f2,f3,f4,f5,f6⟩,-⟩:=Qai g1
    obtain ⟨r0,-,-,-,-⟩:=box2 g2
    obtain ⟨y0,y1,y2,y3⟩:=HKC.out _ g8
    exact ⟨f0,f1,f2,f3,f4,f5,f6,r0,y0,y1,y2,y3⟩)
   go_cut [9] (fun c wx=>∃ h:Nat,c=.pointer (some ⟨h,0,none⟩)/\Hid (wx.heap[h]?=some (.cells #[.string kt,.slice KA nf KC,.int .i64 km,.string ku] 52 (0,0)))/\Hid (Below w5.heap.size w5 wx))
   case first=>
    go_region_held3 (fun w':World=>w'.cell? ⟨N,0,none⟩=some (.int .u8 m)/\w'.cell? ⟨N,1,none⟩=some (.int .u8 q)/\w'.cell? ⟨N,2,none⟩=some (.slice (some ⟨kb,ko,none⟩) nk cp)/\w'.cell? ⟨N,3,none⟩=some (.string hd)/\w'.cell? ⟨N,4,none⟩=some (.string tl)/\w'.cell? ⟨N,5,none⟩=some (.string ct)/\w'.cell? ⟨N,6,none⟩=some (.string sm)/\w'.cell? ⟨rb,0,none⟩=some (.string rt)/\w'.cell? ⟨kb,ko+kk*4,none⟩=some (.string kt)/\w'.cell? ⟨kb,ko+kk*4+1,none⟩=some (.slice KA nf KC)/\w'.cell? ⟨kb,ko+kk*4+2,none⟩=some (.int .i64 km)/\w'.cell? ⟨kb,ko+kk*4+3,none⟩=some (.string ku))
     (first | (with_reducible exact HSB.out _ T2) | (with_reducible exact HSB.out _ (T2.alloc T2.size _)) | (refine HSB.out _ ?_;go_grown))
     (first | (go_at_call 27;refine (HKJ.out _ (by first | exact HQK.out | exact HQK.out.below (by go_grown))).mono ?_;rintro e w3 ⟨rfl,hb3'⟩;(have T2:Below w5.heap.size w5 w3:=Qab hb3' (by go_grown) (by first | exact Nat.le_refl _ | (simp only [World.size_alloc,World.size_drew];omega)));(first | (have hN3:=news1d hb3';obtain ⟨⟨y0,y1,y2,y3⟩,y5,y4⟩:=Qaw hN3) | skip)))
    ·go_wp2_with fail
     go_meet
     exact ⟨w3.heap.size,rfl,Hd (Qac _ _ rfl),Hd (T2.alloc T2.size _)⟩
    ·go_wp2_with fail
     go_meet
     exact ⟨w5.heap.size,rfl,Hd (Qae (Qae (Qae (Qae hN3 0 _) 1 _) 2 _) 3 _),Hd ((((T2.setCell (p:=⟨w5.heap.size,0,none⟩) (Nat.le_refl _) _).setCell (p:=⟨w5.heap.size,1,none⟩) (Nat.le_refl _) _).setCell (p:=⟨w5.heap.size,2,none⟩) (Nat.le_refl _) _).setCell (p:=⟨w5.heap.size,3,none⟩) (Nat.le_refl _) _)⟩
   case rest=>
   obtain ⟨KB,rfl,HKB,HBK⟩:=hcut
   generalize wc=w6 at HKB HBK ⊢
   have HW6:=Hd (show ∀ wx,Below w6.heap.size w6 wx->wx.heap[N]?=some (.cells #[.int .u8 m,.int .u8 q,.slice (some ⟨kb,ko,none⟩) nk cp,.string hd,.string tl,.string ct,.string sm] 24 (0,0))/\wx.heap[rb]?=some (.cells #[.string rt,.slice RJ nv CJ] 49 (0,0))/\wx.heap[SB]?=some (.cells #[.bool s,.slice SA sn sc] 77 (0,0))/\wx.heap[KB]?=some (.cells #[.string kt,.slice KA nf KC,.int .i64 km,.string ku] 52 (0,0))/\Cols wx KA fs/\Big .i64 3 B6 wx s SA sn sc z/\RowM wx ⟨rt,vs⟩ RJ CJ/\wx.heap[N+1]?=some (.cells #[.bool false,.slice none 0 0] 77 (0,0))/\Below SB w4 wx from fun wx h=>by
    have h2:=Qab h HBK.out HBK.out.size
    obtain ⟨g1,g2,g3,g4,g5,g6,g7,g8⟩:=HW5.out wx h2
    exact ⟨g1,g2,g3,Qaa HKB.out h,HCO.out.1.below (HFB.out wx g8),g5,g6,g7,g8⟩)
   clear T1 HSB HQK HW5 HKB HBK HKC HKJ
   obtain ⟨q1,q2,q3,q4,qc,-,-,-,-⟩:=HW6.out _ (Below.refl _ _)
   obtain ⟨⟨f0,f1,f2,f3,f4,f5,f6⟩,-⟩:=Qai q1
   obtain ⟨⟨y0,y1,y2,y3⟩,-,-⟩:=Qaw q4
   have HQC:=Hd qc
   clear q1 q2 q3 q4 qc
   go_wp2_with fail
   refine (HCA.out _ HQC.out).mono ?_
   rintro _ w7 ⟨rfl,hb7⟩
   have HB7:=Hd hb7
   clear f0 f1 f2 f3 f4 f5 f6 y0 y1 y2 y3 hb7 HQC HCA
   obtain ⟨q1,q2,q3,q4,qc,-,-,-,-⟩:=HW6.out _ HB7.out
   obtain ⟨⟨f0,f1,f2,f3,f4,f5,f6⟩,-⟩:=Qai q1
   obtain ⟨r0,r1,-,-,-⟩:=box2 q2
   clear q1 q2 q3 q4 qc
   obtain ⟨ii,hii⟩:=ex_ (ixF (Qaj sm) fs)
   have HII:=Hd hii
   rw [hii]
   clear hii
   go_wp2_with fail
   refine (HIJ.out _).mono ?_
   rintro _ w8 ⟨rfl,hb8⟩
   have HB8:=Hd (Qab hb8 HB7.out HB7.out.size)
   clear f0 f1 f2 f3 f4 f5 f6 r0 r1 hb8 HB7 HIJ
   have HST:=Hd (show ∀ wx,Below w6.heap.size w6 wx->SumSt SB wx z/\Below SB w4 wx from fun wx h=>by
    obtain ⟨g1,g2,g3,g4,g5,g6,g7,g8,g9⟩:=HW6.out wx h
    exact ⟨⟨s,SA,sn,sc,g6,g3⟩,g9⟩)
   cases hE2:EU with
   | true=>
    have HN:=Hd (show SZ (j+1)=z by rw [HSJ.out,hE2];exact Int.add_zero _)
    have HAN:=Hd (show AN (j+1)=false by rw [HAJ1.out,HAJ.out,hE2];rfl)
    have HSX:=Hd (show SumSt SB w8 (SZ (j+1)) by rw [HN.out];exact (HST.out _ HB8.out).1)
    have HSY:=Hd (HST.out _ HB8.out).2
    clear hE2
    go_wp2
    go_roundw
    case rel=>first | exact ⟨j+1,by omega,by go_num,HAN,HSX,HSY⟩ | ((repeat apply Exists.intro);exact ⟨⟨j+1,by omega,by go_num,HAN,HSX,HSY⟩,rfl⟩)
    case measure=>simp [intOf];omega
   | false=>
   have HSJ2:=Hd (show SZ (j+1)=z+rowZ ⟨m,q,ks,hd,tl,ct,sm⟩ ⟨#[]⟩ sm ⟨rt,vs⟩ by rw [HSJ.out,hE2];rfl)
   have HAJ2:=Hd (show AN (j+1)=BU by rw [HAJ1.out,HAJ.out,hE2];rfl)
   have HAR2:=Hd (fun h=>HARJ.out hE2 h)
   clear hE2
   rcases HIX.out with ⟨h1,-⟩|⟨ic,hi,h1,-,-⟩
   ·rw [HII.out] at h1
    have HZE:=Hd (show rowZ ⟨m,q,ks,hd,tl,ct,sm⟩ ⟨#[]⟩ sm ⟨rt,vs⟩=0 by rw [HRZ.out,if_pos (.inl (by rw [HII.out,h1];decide))])
    have HN:=Hd (show SZ (j+1)=z by rw [HSJ2.out,HZE.out];exact Int.add_zero _)
    have HAN:=Hd (show AN (j+1)=false by rw [HAJ2.out,HBBJ.out,HII.out,h1];rfl)
    have HSX:=Hd (show SumSt SB w8 (SZ (j+1)) by rw [HN.out];exact (HST.out _ HB8.out).1)
    have HSY:=Hd (HST.out _ HB8.out).2
    subst h1
    go_wp2
    go_roundw
    case rel=>first | exact ⟨j+1,by omega,by go_num,HAN,HSX,HSY⟩ | ((repeat apply Exists.intro);exact ⟨⟨j+1,by omega,by go_num,HAN,HSX,HSY⟩,rfl⟩)
    case measure=>simp [intOf];omega
   have HIE2:=Hd h1
   rw [HII.out] at h1
   subst h1
   have hin:ic<nf:=by rw [<- HNF.out];exact hi
   have hicv:ic<nv:=by rw [HMN.out];exact hin
   have hi0:¬ (ic:Int)<0:=by omega
   have hi1:(0:Int)<=(ic:Int):=by omega
   have hi2:(ic:Int)<(nf:Int):=by omega
   have hi3:(ic:Int)<(nv:Int):=by omega
   obtain ⟨q1,q2,q3,q4,qc,-,qr,qz,q9⟩:=HW6.out _ HB8.out
   obtain ⟨cb,co,hA2,hcb,d0,d1,d2,d3,d4,d5,d6,d7⟩:=qc.cells (j:=ic) (by show ic<fs.length;rw [HNF.out];exact hin)
   subst hA2
   obtain ⟨⟨y0,y1,y2,y3⟩,-,-⟩:=Qaw q4
   obtain ⟨r0,r1,-,-,-⟩:=box2 q2
   obtain ⟨vb,vo,rfl,hvb,hvc⟩:=qr.vals.cells (by show 0<vs.length;rw [HNV.out];omega)
   have s0:=hvc ic (by show ic<vs.length;rw [HNV.out];exact hicv)
   simp only at s0
   have hsz:=wd_size qr.size ic
   simp only at hsz
   have HRZ2:=Hd (show rowZ ⟨m,q,ks,hd,tl,ct,sm⟩ ⟨#[]⟩ sm ⟨rt,vs⟩=if wd vs ic=⟨#[]⟩ then 0 else Qaz (Qag (wd vs ic).data.toList).1 (Qag (wd vs ic).data.toList).2.1 9 by
    rw [HRZ.out,HIE2.out,Int.toNat_natCast]
    by_cases h9:wd vs ic=⟨#[]⟩
    ·rw [if_pos h9,if_pos (.inr h9)]
    ·rw [if_neg h9,if_neg (by rintro (k | k);omega;exact h9 k)])
   have HBE:=Hd (show BU=decide ((cA fs ic).kind≠2) by rw [HBBJ.out,HIE2.out,decide_eq_true hi1,Bool.true_and,Int.toNat_natCast])
   obtain ⟨kd,hkd⟩:=ex_ ((cA fs ic).kind)
   rw [hkd] at d1 HBE
   obtain ⟨sv,hsv⟩:=ex_ (wd vs ic)
   rw [hsv] at s0 hsz HRZ2
   have hem:=Qah sv
   have HQ3:=Hd q3;have HQZ:=Hd qz;have HQ9:=Hd q9
   obtain ⟨s0x,s1x,-,-,-⟩:=box2 q3
   obtain ⟨z0,z1,z2,z3,z5⟩:=box2 qz
   have HGW:=Hd (HW6.out _ HB8.out).2.2.2.2.2.1
   clear hkd hsv d0 d2 d3 d4 d5 d6 d7 q1 q2 q3 q4 qc qr qz q9 hvc HIX HCO
   by_cases h2:kd=2
   case neg=>
    have HR1:=Hd (show R=true from HAR2.out (by rw [HBE.out];exact decide_eq_true h2))
    have h2a:(kd !=2)=true:=by simpa using h2
    clear h2 hem s0
    go_wp2
    have hz9:((w8.setCell ⟨N+1,0,none⟩ (.bool s)).setCell ⟨N+1,1,none⟩ (.slice SA sn sc)).heap[N+1]?=some (.cells #[.bool s,.slice SA sn sc] 77 (0,0)):=Qae (Qae HQZ.out 0 _) 1 _
    obtain ⟨r0,r1,-,-,-⟩:=box2 hz9
    have hBf:=HFB.out _ HQ9.out
    refine bodyPost_ret (v:=.tuple #[.agg #[.bool s,.slice SA sn sc],.int .i64 6]) (by simp [results,Tryz.results44,go_sem,r0,r1]) rfl (RetSu.of (by rw [HR1.out];rfl) (fun h=>by rw [HR1.out] at h;cases h) ?_)
    exact (hBf.setCell (p:=⟨N+1,0,none⟩) (by show w.heap.size<=N+1;have:=HNE.out;omega) _).setCell (p:=⟨N+1,1,none⟩) (by show w.heap.size<=N+1;have:=HNE.out;omega) _
   subst h2
   have HAN:=Hd (show AN (j+1)=false by rw [HAJ2.out,HBE.out];rfl)
   by_cases h0:sv=⟨#[]⟩
   ·have HN:=Hd (show SZ (j+1)=z by rw [HSJ2.out,HRZ2.out,if_pos h0];exact Int.add_zero _)
    have HSX:=Hd (show SumSt SB w8 (SZ (j+1)) by rw [HN.out];exact (HST.out _ HB8.out).1)
    rw [decide_eq_true h0] at hem
    clear h0
    go_wp2
    go_roundw
    case rel=>first | exact ⟨j+1,by omega,by go_num,HAN,HSX,HQ9⟩ | ((repeat apply Exists.intro);exact ⟨⟨j+1,by omega,by go_num,HAN,HSX,HQ9⟩,rfl⟩)
    case measure=>simp [intOf];omega
   rw [decide_eq_false h0] at hem
   have HZE:=Hd (show rowZ ⟨m,q,ks,hd,tl,ct,sm⟩ ⟨#[]⟩ sm ⟨rt,vs⟩=Qaz (Qag sv.data.toList).1 (Qag sv.data.toList).2.1 9 by rw [HRZ2.out,if_neg h0])
   have hdc:=Qbz sv.data.toList
   have HRT:=Hd (fun w=>rreadtext_c sv w hsz)
   obtain ⟨⟨u,p,e⟩,hrd⟩:=ex_ (Qag sv.data.toList)
   rw [hrd] at HZE hdc HRT
   simp only at HZE hdc
   unfold RetD at HRT
   simp only at HRT
   have HDC:=Hd hdc
   have hbd:=scl_bd hdc
   have HSM:=Hd (show Small z from Qay (by have:=HBJ.out;omega) (by have:=HBJ.out;omega))
   have HSV:=Hd (show Small (Qaz u p 9) from Qay (by omega) (by omega))
   have HN:=Hd (show SZ (j+1)=z+Qaz u p 9 by rw [HSJ2.out,HZE.out])
   have hz8:SB<w8.heap.size:=Qan HQ3.out
   clear h0 hrd hdc hbd z0 z1 z2 z3 z5
   go_wp2_with fail
   refine (HRT.out _).mono ?_
   rintro _ wc2 ⟨rfl,hbc⟩
   have HS9:=Hd (Qad (Qaa HQ3.out hbc) (.cells #[.int .i64 u,.int .i64 p] 70))
   have HD9:=Hd (Qac wc2 (.cells #[.int .i64 u,.int .i64 p] 70) rfl)
   have hbc9:Below w8.heap.size w8 (wc2.alloc (.cells #[.int .i64 u,.int .i64 p] 70)):=hbc.alloc hbc.size _
   have HG8:=Hd (HGW.out.below hbc9)
   have HB9:=Hd (show Below SB w4 _ from HQ9.out.trans (hbc9.mono (Nat.le_of_lt hz8)))
   clear hbc hbc9 s0 hvb r0 r1 y0 y1 y2 y3 d1 hcb s0x s1x HGW HQ3 HQZ HQ9 HST HB8 HW6 hem
   go_upto_region 12 with fail
   obtain ⟨DB,hDB⟩:=ex_ (wc2.heap.size)
   rw [hDB] at HD9
   try rw [hDB]
   generalize wc2.alloc (.cells #[.int .i64 u,.int .i64 p] 70)=w9 at HS9 HD9 HG8 HB9 ⊢
   clear hDB
   have HSB:=Hd (show ∀ wx,Below w9.heap.size w9 wx->(fun w':World=>w'.cell? ⟨SB,0,none⟩=some (.bool s)/\w'.cell? ⟨SB,1,none⟩=some (.slice SA sn sc)/\w'.cell? ⟨DB,0,none⟩=some (.int .i64 u)/\w'.cell? ⟨DB,1,none⟩=some (.int .i64 p)) wx from fun wx h=>by
    obtain ⟨a0,a1,-,-,-⟩:=box2 (Qaa HS9.out h)
    obtain ⟨b0,b1,-,-,-⟩:=box2 (Qaa HD9.out h)
    exact ⟨a0,a1,b0,b1⟩)
   have hT:=HSB.out _ ((Below.refl _ _).drew)
   have hfz:w9.frozen? ⟨SB,0,none⟩=false/\w9.frozen? ⟨SB,1,none⟩=false:=⟨(box2 HS9.out).2.2.1,(box2 HS9.out).2.2.2.1⟩
   refine Qaq 4 (fun w':World=>w'.cell? ⟨SB,0,none⟩=some (.bool s)/\w'.cell? ⟨SB,1,none⟩=some (.slice SA sn sc)/\w'.cell? ⟨DB,0,none⟩=some (.int .i64 u)/\w'.cell? ⟨DB,1,none⟩=some (.int .i64 p)) (by kernel_rfl) ?_
   refine Till.tk (i:=0) (v:=?_) rfl [3] hT (Or.inl ⟨by rfl,?_⟩) ?_
   rotate_left
   ·(intro w' hw';obtain ⟨u1,u2,u3,u4⟩:=hw';go_simp;try with_reducible rfl)
   (try simp only [Act.put,Till.a,Till.b,Till.c])
   refine Till.tk (i:=1) (v:=?_) rfl [2,3] hT (Or.inl ⟨by rfl,?_⟩) ?_
   rotate_left
   ·(intro w' hw';obtain ⟨u1,u2,u3,u4⟩:=hw';go_simp;try with_reducible rfl)
   (try simp only [Act.put,Till.a,Till.b,Till.c])
   refine Till.step (i:=2) (by kernel_rfl) rfl ?_
   intro K hK
   go_simp
   (go_at_call 81;refine (at_r u p 9 _ HDC.out (QaV HDC.out).2.2.2 (by decide)).mono ?_;rintro _ wa ⟨sa,Aa,na,ca,rfl,hva,hba⟩;(have Ta:Below w9.heap.size w9 wa:=by exact ⟨hba.os,hba.tape,hba.output,hba.size,hba.block⟩))
   have hT:=HSB.out _ Ta
   refine hK.out _ _ (fun _=>hT) ?_
   clear hK K
   (try simp only [Act.put,Till.a,Till.b,Till.c])
   refine Till.step (i:=3) (by kernel_rfl) rfl ?_
   intro K hK
   go_simp
   (go_at_call 80;refine (plus_r _ (HG8.out.below Ta) hva HSM.out HSV.out).mono ?_;rintro _ wb ⟨sb,Ab,nb,cb2,rfl,hvb,hbb⟩;(have Tb:Below w9.heap.size w9 wb:=Qab hbb Ta Ta.size))
   have hT:=HSB.out _ Tb
   refine hK.out _ _ (fun _=>hT) ?_
   clear hK K
   (try simp only [Act.put,Till.a,Till.b,Till.c])
   obtain ⟨-,-,fz0,fz1,-⟩:=box2 (Qaa HS9.out Tb)
   refine Till.step (i:=4) (by kernel_rfl) rfl ?_
   intro K hK
   go_simp
   refine hK.out _ _ (fun h=>absurd h (by decide)) ?_
   clear hK K
   (try simp only [Act.put,Till.a,Till.b,Till.c])
   refine Till.done (by kernel_rfl) ?_ _
   have HSb:=Hd (Qaa HS9.out Tb)
   have hsz8:=Qan HS9.out
   have HBb:=Hd (Qab Tb HB9.out (Nat.le_of_lt hsz8))
   have HS10:=Hd (show ((wb.setCell ⟨SB,0,none⟩ (.bool sb)).setCell ⟨SB,1,none⟩ (.slice Ab nb cb2)).heap[SB]?=some (.cells #[.bool sb,.slice Ab nb cb2] 77 (0,0)) from Qae (Qae HSb.out 0 _) 1 _)
   have HG10:=Hd (hvb.box2 HSb.out (by decide) (.bool sb) (.slice Ab nb cb2))
   have HB10:=Hd ((HBb.out.setCell (p:=⟨SB,0,none⟩) (Nat.le_refl _) (.bool sb)).setCell (p:=⟨SB,1,none⟩) (Nat.le_refl _) (.slice Ab nb cb2))
   have HSX:=Hd (show SumSt SB ((wb.setCell ⟨SB,0,none⟩ (.bool sb)).setCell ⟨SB,1,none⟩ (.slice Ab nb cb2)) (SZ (j+1)) by rw [HN.out];exact ⟨sb,Ab,nb,cb2,HG10.out,HS10.out⟩)
   go_wp2
   go_roundw
   case rel=>first | exact ⟨j+1,by omega,by go_num,HAN,HSX,HB10⟩ | ((repeat apply Exists.intro);exact ⟨⟨j+1,by omega,by go_num,HAN,HSX,HB10⟩,rfl⟩)
   case measure=>simp [intOf];omega
  ·obtain rfl:j=nr:=by omega
   have HR1:=Hd (show R=false by rw [<- HAE.out];exact HAJ.out)
   obtain ⟨-,qz,-,-,q9⟩:=HF.out _ HB.out
   have HQZ:=Hd qz;have HQ9:=Hd q9
   obtain ⟨s0x,s1x,-,-,-⟩:=box2 HS.out
   obtain ⟨z0,z1,z2,z3,z5⟩:=box2 qz
   clear qz q9
   go_wp2
   have hz9:((wr.setCell ⟨N+1,0,none⟩ (.bool s)).setCell ⟨N+1,1,none⟩ (.slice SA sn sc)).heap[N+1]?=some (.cells #[.bool s,.slice SA sn sc] 77 (0,0)):=Qae (Qae HQZ.out 0 _) 1 _
   obtain ⟨r0,r1,-,-,-⟩:=box2 hz9
   have hBf:=HFB.out _ HB.out
   refine bodyPost_ret (v:=.tuple #[.agg #[.bool s,.slice SA sn sc],.int .i64 0]) (by simp [results,Tryz.results44,go_sem,r0,r1]) rfl (RetSu.of (by rw [HR1.out];rfl) (fun _=>HG.out.box2 HQZ.out (by decide) (.bool s) (.slice SA sn sc)) ?_)
   exact (hBf.setCell (p:=⟨N+1,0,none⟩) (by show w.heap.size<=N+1;have:=HNE.out;omega) _).setCell (p:=⟨N+1,1,none⟩) (by show w.heap.size<=N+1;have:=HNE.out;omega) _
end Go.Proofs.YtaiabjiehpcaoaaGreatDoor
