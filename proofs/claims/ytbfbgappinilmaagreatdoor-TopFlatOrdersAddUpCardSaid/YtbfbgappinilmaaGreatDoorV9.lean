
/- The walks of the program's lineOf and Line. (Printed by genV9.py.) -/
import Derived.Test.YtbfbgappinilmaaGreatDoorYP
import Derived.Test.YtbfbgappinilmaaGreatDoorV8
import Derived.Test.YtbfbgappinilmaaGreatDoorG1
namespace Go.Proofs.YtbfbgappinilmaaGreatDoor
open Go.RowKit Limb Nmb Work
set_option linter.unusedVariables false
set_option linter.unusedSimpArgs false
set_option maxHeartbeats 8000000 in
set_option maxRecDepth 100000 in
theorem lineof_c (f:Fmt) (A:Option Addr) (cp:Nat) (FA:Nat->Option Addr) (FC:Nat->Nat) (r:RowP) (RA:Option Addr) (RC:Nat) (m0:Int) (w:World) (ho:Kinds w A f.kinds FA FC) (hr:RowM w r RA RC) (hf:checkF f=0) (h0:(rowF f r).2=0) (hm:0<=f.mark/\f.mark<=255) (ht:Tab w) (hM:w.cell? ⟨1,0,none⟩=some (.int .i64 m0)) :
  Calls Tryz.prog 44 #[fmtG f A cp,rowG r RA RC] w (RetS (bs (lineL f r)) w):=by
 have HKA:=Lib.hid (fun w h=>kindat_c f A cp FA FC r.tag w h)
 have hfk:=checkF_ok hf
 have HRK:=Lib.hid (rowF_ok h0)
 have hqr:f.quote=0∨(0<=f.quote/\f.quote<128):=by
  by_cases h1:f.quote=0
  ·exact .inl h1
  ·right
   by_cases h2:f.mark=0
   ·exact absurd (hfk.none h2) h1
   ·have:=markF_rng ((hfk.marks h2).2.1 h1);omega
 have hmr:f.mark=0∨(0<=f.mark/\f.mark<128):=by
  by_cases h2:f.mark=0
  ·exact .inl h2
  ·right
   have:=markF_rng (hfk.marks h2).1;omega
 have HFIL:=Lib.hid (fun c s w hs hv hk hm0 hw ht=>fill6_c f A f.kinds.length cp c s w hs hv hk hm0 hw ht)
 have HMRK:=Lib.hid (fun c s w hs hv hk hw ht hM=>mark6_c f A f.kinds.length cp c s m0 w hs hv hk hm hqr hw ht hM)
 have HFK:=Lib.hid hfk
 have HCS:=Lib.hid (kat_cases f FA FC r.tag)
 have HKI:=Lib.hid ho;have HRM:=Lib.hid hr;have HTB:=Lib.hid ht;have HMX:=Lib.hid hM
 obtain ⟨R,hR⟩:∃ x,bs (lineL f r)=x:=⟨_,rfl⟩
 have HR:=Lib.hid hR
 rw [hR]
 clear ho hr ht hf hR h0 hM hfk hqr
 obtain ⟨m,q,ks,hd,tl,ct,sm⟩:=f
 obtain ⟨tg,vs⟩:=r
 unfold fmtG at HKA ⊢
 unfold rowG
 simp only at HKA HFIL HMRK HCS HKI hm hmr ⊢
 obtain ⟨n,hn⟩:∃ x,ks.length=x:=⟨_,rfl⟩
 have HN:=Lib.hid hn
 obtain ⟨nv,hnv⟩:∃ x,vs.length=x:=⟨_,rfl⟩
 have HNV:=Lib.hid hnv
 have hnvb:nv<=RC:=by rw [<- hnv];exact HRM.out.len.1
 have hrcb:=HRM.out.len.2
 rw [hn] at HKA HFIL HMRK ⊢
 rw [hnv]
 clear hn hnv
 have hF0:=heap_old (heap_new w (.cells #[.int .u8 m,.int .u8 q,.slice A n cp,.string hd,.string tl,.string ct,.string sm] 44) rfl) (.cells #[.string tg,.slice RA nv RC] 39)
 have hR0:=heap_new (w.alloc (.cells #[.int .u8 m,.int .u8 q,.slice A n cp,.string hd,.string tl,.string ct,.string sm] 44)) (.cells #[.string tg,.slice RA nv RC] 39) (g:=w.heap.size+1) (by simp)
 have hB0:Below w.heap.size w ((w.alloc (.cells #[.int .u8 m,.int .u8 q,.slice A n cp,.string hd,.string tl,.string ct,.string sm] 44)).alloc (.cells #[.string tg,.slice RA nv RC] 39)):=by go_grown
 go_enter Tryz.func44,Tryz.ntmps44
 obtain ⟨⟨f0,f1,f2,f3,f4,f5,f6⟩,f7⟩:=obox7 hF0
 obtain ⟨r0,r1,-,-,r2⟩:=box2 hR0
 have HKW:=Lib.hid (HKI.out.below hB0)
 go_wp2_with fail
 refine (HKA.out _ HKW.out).mono ?_
 rintro e w2 ⟨rfl,hb2⟩
 have hF2:=heap_below hF0 hb2
 have hR2:=heap_below hR0 hb2
 have hB2:=below_then hb2 hB0 hB0.size
 have hz2:=hB2.size
 clear hF0 hR0 hb2 f0 f1 f2 f3 f4 f5 f6 f7 r0 r1 r2 HKW hB0
 rcases HCS.out with ⟨h1,-,-,-⟩|⟨k,hk,h1,h2,h3,h4⟩
 ·have:=HRK.out.kind
  simp only at this
  omega
 have hmany:=HRK.out.many
 have HVK:=Lib.hid HRK.out.vals
 simp only at hmany HVK
 have HLL:=Lib.hid (show lineL ⟨m,q,ks,hd,tl,ct,sm⟩ ⟨tg,vs⟩=tg.data.toList++fldsL m q (kA ks k).fields vs (kA ks k).fields.length by unfold lineL;simp only;rw [h2])
 rw [h1,h2,h3,h4]
 rw [h2] at hmany HVK
 have hdec:decide ((0:Int)<=(k:Int))=true:=decide_eq_true (by omega)
 rw [hdec]
 have HKK:=Lib.hid (HFK.out.kinds k hk)
 have HCO:=Lib.hid ((HKI.out).2.2 k hk)
 simp only at HKK
 have htagz:tg.size<=6:=by
  have h5:(kA ks k).tag=tg:=by
   have:=h1
   unfold katI at this
   simp only at this
   rcases ixF_spec (tagIs tg) ks with ⟨e1,-⟩|⟨k',hk',e1,e2,-⟩
   ·omega
   ·obtain rfl:k=k':=by omega
    rw [<- kA_get hk']
    exact of_decide_eq_true e2
  have:=HKK.out.tag.2
  rw [h5] at this
  exact this
 obtain ⟨K,hK⟩:∃ x,kA ks k=x:=⟨_,rfl⟩
 have HKc:=Lib.hid (fun j (hj:j<K.fields.length)=>(show ColK m (cA K.fields j) by rw [<- hK] at hj ⊢;exact HKK.out.cols j hj))
 have hn50:K.fields.length<=50:=by rw [<- hK];exact HKK.out.many
 rw [hK] at HLL HCO HVK hmany ⊢
 clear h1 h2 h3 h4 hdec hK
 obtain ⟨kt,fs,km,ku⟩:=K
 unfold kindG
 simp only at HLL HCO HKc HVK hmany hn50 ⊢
 obtain ⟨KA,hKA⟩:∃ x,FA k=x:=⟨_,rfl⟩
 obtain ⟨KC,hKC⟩:∃ x,FC k=x:=⟨_,rfl⟩
 have hnf:fs.length=nv:=by rw [<- hmany];exact HNV.out
 have HNF:=Lib.hid hnf
 rw [hnf,hKA,hKC] at HCO
 rw [hnf] at HKc HVK HLL hn50
 rw [hnf,hKA,hKC]
 have hnfc:nv<=KC:=HCO.out.2
 have HVO:=Lib.hid (fun j (hj:j<nv)=>valF_ok (by have:=(HKc.out j hj).width;omega) (HVK.out j hj))
 have HLN0:=Lib.hid (flds_len (m:=m) (q:=q) (fs:=fs) (vs:=vs) (n:=nv) (fun j hj=>⟨(HKc.out j hj).width,(HVO.out j hj).2⟩))
 clear hnf hKA hKC HKK hmany
 have hF3:=heap_old (heap_old hF2 (.cells #[.string kt,.slice KA nv KC,.int .i64 km,.string ku] 83)) (.cells #[.pointer none,.slice none 0 0] 95)
 have hR3:=heap_old (heap_old hR2 (.cells #[.string kt,.slice KA nv KC,.int .i64 km,.string ku] 83)) (.cells #[.pointer none,.slice none 0 0] 95)
 have hK3:=heap_old (heap_new w2 (.cells #[.string kt,.slice KA nv KC,.int .i64 km,.string ku] 83) rfl) (.cells #[.pointer none,.slice none 0 0] 95)
 have hL3:=Bld.new (w2.alloc (.cells #[.string kt,.slice KA nv KC,.int .i64 km,.string ku] 83))
 have hB3:Below w.heap.size w ((w2.alloc (.cells #[.string kt,.slice KA nv KC,.int .i64 km,.string ku] 83)).alloc (.cells #[.pointer none,.slice none 0 0] 95)):=by go_grown
 obtain ⟨b,hb⟩:∃ x,(w2.alloc (.cells #[.string kt,.slice KA nv KC,.int .i64 km,.string ku] 83)).heap.size=x:=⟨_,rfl⟩
 have hbk:w2.heap.size<b:=by rw [<- hb];simp
 have hwb:w.heap.size+1<b:=Nat.lt_trans (lt_heap hR2) hbk
 rw [hb] at hL3
 go_upto_region 3 with fail
 try rw [hb]
 obtain ⟨k0,hk0⟩:∃ x,w2.heap.size=x:=⟨_,rfl⟩
 rw [hk0] at hK3 hbk
 try rw [hk0]
 have hbs:b=k0+1:=by rw [<- hb,<- hk0];simp
 have HBS:=Lib.hid hbs
 try rw [<- hbs]
 generalize (w2.alloc (.cells #[.string kt,.slice KA nv KC,.int .i64 km,.string ku] 83)).alloc (.cells #[.pointer none,.slice none 0 0] 95)=w3 at hF3 hR3 hK3 hL3 hB3 ⊢
 clear hb hk0 hbs hF2 hR2 hB2
 obtain ⟨⟨f0,f1,f2,f3,f4,f5,f6⟩,f7⟩:=obox7 hF3
 obtain ⟨r0,r1,-,-,r2⟩:=box2 hR3
 go_wp2_with fail
 refine (write_c b [] tg w3 hL3 (by show 0+_<=_;omega)).mono ?_
 rintro e w4 ⟨rfl,hbl4,hbb4,-⟩
 rw [List.nil_append] at hbl4
 have hF4:=keep_heap hF3 hbb4 (by omega)
 have hR4:=keep_heap hR3 hbb4 (by omega)
 have hK4:=keep_heap hK3 hbb4 hbk
 have hB4:=hB3.trans (hbb4.mono (by omega:w.heap.size<=b))
 clear f0 f1 f2 f3 f4 f5 f6 f7 r0 r1 r2 hF3 hR3 hK3 hL3 hbb4 hB3
 have HF4:=Lib.hid hF4;have HR4:=Lib.hid hR4;have HK4:=Lib.hid hK4;have HB4:=Lib.hid hB4
 obtain ⟨⟨y0,y1,y2,y3⟩,-,y4⟩:=obox4 hK4
 go_wp2_with fail
 go_loopw [23] (fun i wr=>∃ j:Nat,j<=nv/\i=.int .i64 j/\Bld wr b (tg.data.toList++fldsL m q fs vs j)/\Hid (Below b w4 wr)) (fun i _=>nv-(intOf i).toNat)
 case atStart=>exact ⟨0,Nat.zero_le _,rfl,by rw [fldsL_zero,List.append_nil];exact hbl4,Lib.hid (Below.refl _ _)⟩
 case round=>
  clear y0 y1 y2 y3 y4 hF4 hR4 hK4 hB4 hbl4
  obtain ⟨j,hj,rfl,hbl,HB⟩:=hrel
  have HBW:=Lib.hid (HB4.out.trans (HB.out.mono (by omega:w.heap.size<=b)))
  have hlt0:=hbl.lt
  have HBL:=Lib.hid hbl
  clear hbl
  rcases Nat.lt_or_ge j nv with hlt | hge
  ·have HF:=Lib.hid (keep_heap HF4.out HB.out (by omega))
   have HR:=Lib.hid (keep_heap HR4.out HB.out (by omega))
   have HK:=Lib.hid (keep_heap HK4.out HB.out hbk)
   obtain ⟨⟨y0,y1,y2,y3⟩,-,y4⟩:=obox4 HK.out
   obtain ⟨⟨f0,f1,f2,f3,f4,f5,f6⟩,f7⟩:=obox7 HF.out
   obtain ⟨cb,off,rfl,hbw,c0,c1,c2,c3,c4,c5,c6,c7⟩:=(HCO.out.1.below HBW.out).cells (j:=j) (by rw [HNF.out];exact hlt)
   obtain ⟨b2,off2,rfl,hbw2,hcs⟩:=(HRM.out.vals.below HBW.out).cells (by rw [HNV.out];omega)
   have s0:=hcs j (by rw [HNV.out];exact hlt)
   have hsz:=wd_size HRM.out.size j
   have HCJ:=Lib.hid (HKc.out j hlt)
   have HVJ:=Lib.hid (HVO.out j hlt)
   have hlj:=HLN0.out j (by omega)
   have HLN:=Lib.hid (show (tg.data.toList++fldsL m q fs vs j).length<=60000 by rw [List.length_append,data_len];omega)
   have HNX:=Lib.hid (fldsL_succ m q fs vs j)
   simp only at s0 hsz
   obtain ⟨s,hs⟩:∃ x,wd vs j=x:=⟨_,rfl⟩
   obtain ⟨co,hco⟩:∃ x,cA fs j=x:=⟨_,rfl⟩
   rw [hco] at HCJ c0 c1 c2 c3 c4 c5 c6 c7
   rw [hs] at s0 hsz
   rw [hco,hs] at HVJ HNX
   clear hs hco hcs hlj
   have HFI0:=Lib.hid (fun hm0 w ht=>HFIL.out co s w hsz HVJ.out.1 HCJ.out hm0 HVJ.out.2 ht)
   have HMK0:=Lib.hid (fun w ht hM=>HMRK.out co s w hsz HVJ.out.1 HCJ.out (by have:=HVJ.out.2;have:=HCJ.out.width;omega) ht hM)
   have HZ1:=Lib.hid (fil_len (m:=m) HCJ.out.width HVJ.out.2)
   have HZ2:=Lib.hid (mrk_len (m:=m) (q:=q) HCJ.out.width HVJ.out.2)
   obtain ⟨nm,kd,wi,pl,fm,rt,fl,nd⟩:=co
   unfold colG at HFI0 HMK0
   simp only at HFI0 HMK0 c0 c1 c2 c3 c4 c5 c6 c7
   have hF5:=heap_old HF.out (.cells #[.string nm,.int .i64 kd,.int .i64 wi,.int .i64 pl,.int .i64 fm,.bool rt,.int .u8 fl,.bool nd] 91)
   have hR5:=heap_old HR.out (.cells #[.string nm,.int .i64 kd,.int .i64 wi,.int .i64 pl,.int .i64 fm,.bool rt,.int .u8 fl,.bool nd] 91)
   have hC5:=heap_new wr (.cells #[.string nm,.int .i64 kd,.int .i64 wi,.int .i64 pl,.int .i64 fm,.bool rt,.int .u8 fl,.bool nd] 91) rfl
   have hb5:Below wr.heap.size wr (wr.alloc (.cells #[.string nm,.int .i64 kd,.int .i64 wi,.int .i64 pl,.int .i64 fm,.bool rt,.int .u8 fl,.bool nd] 91)):=by go_grown
   have s5:=(hb5.cell (p:=⟨b2,off2+j,none⟩) hbw2).trans s0
   have HBL5:=HBL.out.below hb5
   go_upto_region 7 with fail
   obtain ⟨c0n,hc0n⟩:∃ x,wr.heap.size=x:=⟨_,rfl⟩
   have hbc:b<c0n:=by omega
   rw [hc0n] at hC5 ⊢
   have hB45:Below b w4 (wr.alloc (.cells #[.string nm,.int .i64 kd,.int .i64 wi,.int .i64 pl,.int .i64 fm,.bool rt,.int .u8 fl,.bool nd] 91)):=HB.out.trans (hb5.mono (by omega:b<=wr.heap.size))
   generalize wr.alloc (.cells #[.string nm,.int .i64 kd,.int .i64 wi,.int .i64 pl,.int .i64 fm,.bool rt,.int .u8 fl,.bool nd] 91)=w5 at hF5 hR5 hC5 hb5 s5 HBL5 hB45 ⊢
   clear f0 f1 f2 f3 f4 f5 f6 f7 y0 y1 y2 y3 y4 c0 c1 c2 c3 c4 c5 c6 c7 s0 HF HR HK hbw HBL
   obtain ⟨⟨f0,f1,f2,f3,f4,f5,f6⟩,f7⟩:=obox7 hF5
   have HBW5:=Lib.hid (below_then hb5 HBW.out HBW.out.size)
   have HT4:=Lib.hid (HTB.out.below HBW5.out)
   have HM4:=Lib.hid ((HBW5.out.cell (p:=⟨1,0,none⟩) (World.block_lt_of_cell? _ _ HMX.out)).trans HMX.out)
   have HBL4:=Lib.hid HBL5
   have HF5:=Lib.hid hF5;have HR5:=Lib.hid hR5;have HC5:=Lib.hid hC5;have HS5:=Lib.hid s5;have HB45:=Lib.hid hB45
   have hb2w:b2<w5.heap.size:=Nat.lt_of_lt_of_le hbw2 hb5.size
   have HSB:=Lib.hid (show ∀ wx,Below w5.heap.size w5 wx->(fun w':World=>w'.cell? ⟨w.heap.size,0,none⟩=some (.int .u8 m)/\w'.cell? ⟨w.heap.size,1,none⟩=some (.int .u8 q)/\w'.cell? ⟨w.heap.size,2,none⟩=some (.slice A n cp)/\w'.cell? ⟨w.heap.size,3,none⟩=some (.string hd)/\w'.cell? ⟨w.heap.size,4,none⟩=some (.string tl)/\w'.cell? ⟨w.heap.size,5,none⟩=some (.string ct)/\w'.cell? ⟨w.heap.size,6,none⟩=some (.string sm)/\w'.cell? ⟨c0n,0,none⟩=some (.string nm)/\w'.cell? ⟨c0n,1,none⟩=some (.int .i64 kd)/\w'.cell? ⟨c0n,2,none⟩=some (.int .i64 wi)/\w'.cell? ⟨c0n,3,none⟩=some (.int .i64 pl)/\w'.cell? ⟨c0n,4,none⟩=some (.int .i64 fm)/\w'.cell? ⟨c0n,5,none⟩=some (.bool rt)/\w'.cell? ⟨c0n,6,none⟩=some (.int .u8 fl)/\w'.cell? ⟨c0n,7,none⟩=some (.bool nd)/\w'.cell? ⟨w.heap.size+1,1,none⟩=some (.slice (some ⟨b2,off2,none⟩) nv RC)/\w'.cell? ⟨b2,off2+j,none⟩=some (.string s)) wx from fun wx h=>by
    obtain ⟨⟨f0,f1,f2,f3,f4,f5,f6⟩,f7⟩:=obox7 (heap_below HF5.out h)
    obtain ⟨⟨x0,x1,x2,x3,x4,x5,x6,x7⟩,x8⟩:=obox8 (heap_below HC5.out h)
    obtain ⟨r0,r1,-,-,r2⟩:=box2 (heap_below HR5.out h)
    exact ⟨f0,f1,f2,f3,f4,f5,f6,x0,x1,x2,x3,x4,x5,x6,x7,r1,(h.cell (p:=⟨b2,off2+j,none⟩) hb2w).trans HS5.out⟩)
   have hz5:b<=w5.heap.size:=Nat.le_of_lt HBL5.lt
   clear hF5 hR5 hC5 s5 HBL5 hB45 hb5 hc0n hbw2
   generalize w5=w4' at *
   have hT:=HSB.out _ ((Below.refl _ _).drew)
   by_cases h0:m=0
   ·have HFI:=Lib.hid (HFI0.out h0)
    obtain ⟨X,hX⟩:∃ x,filS m ⟨nm,kd,wi,pl,fm,rt,fl,nd⟩ s=x:=⟨_,rfl⟩
    rw [hX] at HFI HZ1
    unfold RetS at HFI
    have HSZ:=Lib.hid HZ1.out
    have HLX:=Lib.hid (show tg.data.toList++fldsL m q fs vs (j+1)=tg.data.toList++fldsL m q fs vs j++X.data.toList by rw [HNX.out,<- List.append_assoc];unfold fldL;rw [if_pos h0,hX])
    have k0:(m==0)=true:=by simpa using h0
    clear h0 hX HMK0 HFI0 HZ1 HZ2
    go_upto_region 8 with fail
    clear f0 f1 f2 f3 f4 f5 f6 f7
    refine region_till 8 (fun w':World=>w'.cell? ⟨w.heap.size,0,none⟩=some (.int .u8 m)/\w'.cell? ⟨w.heap.size,1,none⟩=some (.int .u8 q)/\w'.cell? ⟨w.heap.size,2,none⟩=some (.slice A n cp)/\w'.cell? ⟨w.heap.size,3,none⟩=some (.string hd)/\w'.cell? ⟨w.heap.size,4,none⟩=some (.string tl)/\w'.cell? ⟨w.heap.size,5,none⟩=some (.string ct)/\w'.cell? ⟨w.heap.size,6,none⟩=some (.string sm)/\w'.cell? ⟨c0n,0,none⟩=some (.string nm)/\w'.cell? ⟨c0n,1,none⟩=some (.int .i64 kd)/\w'.cell? ⟨c0n,2,none⟩=some (.int .i64 wi)/\w'.cell? ⟨c0n,3,none⟩=some (.int .i64 pl)/\w'.cell? ⟨c0n,4,none⟩=some (.int .i64 fm)/\w'.cell? ⟨c0n,5,none⟩=some (.bool rt)/\w'.cell? ⟨c0n,6,none⟩=some (.int .u8 fl)/\w'.cell? ⟨c0n,7,none⟩=some (.bool nd)/\w'.cell? ⟨w.heap.size+1,1,none⟩=some (.slice (some ⟨b2,off2,none⟩) nv RC)/\w'.cell? ⟨b2,off2+j,none⟩=some (.string s)) (by kernel_rfl) ?_
    refine Till.tk (i:=0) (v:=?_) rfl [7] hT (Or.inl ⟨by rfl,?_⟩) ?_
    rotate_left
    ·(intro w' hw';obtain ⟨u0,u1,u2,u3,u4,u5,u6,u7,u8,u9,u10,u11,u12,u13,u14,u15,u16⟩:=hw';go_simp;try with_reducible rfl)
    (try simp only [Act.put,Till.a,Till.b,Till.c])
    refine Till.tk (i:=1) (v:=?_) rfl [7] hT (Or.inl ⟨by rfl,?_⟩) ?_
    rotate_left
    ·(intro w' hw';obtain ⟨u0,u1,u2,u3,u4,u5,u6,u7,u8,u9,u10,u11,u12,u13,u14,u15,u16⟩:=hw';go_simp;try with_reducible rfl)
    (try simp only [Act.put,Till.a,Till.b,Till.c])
    refine Till.tk (i:=2) (v:=?_) rfl [3,5,6,7] hT (Or.inl ⟨by rfl,?_⟩) ?_
    rotate_left
    ·(intro w' hw';obtain ⟨u0,u1,u2,u3,u4,u5,u6,u7,u8,u9,u10,u11,u12,u13,u14,u15,u16⟩:=hw';go_simp;try with_reducible rfl)
    (try simp only [Act.put,Till.a,Till.b,Till.c])
    refine Till.tk (i:=3) (v:=?_) rfl [5,6,7] hT (Or.inl ⟨by rfl,?_⟩) ?_
    rotate_left
    ·(intro w' hw';obtain ⟨u0,u1,u2,u3,u4,u5,u6,u7,u8,u9,u10,u11,u12,u13,u14,u15,u16⟩:=hw';go_simp;try with_reducible rfl)
    (try simp only [Act.put,Till.a,Till.b,Till.c])
    refine Till.tk (i:=4) (v:=?_) rfl [5,6,7] hT (Or.inl ⟨by rfl,?_⟩) ?_
    rotate_left
    ·(intro w' hw';obtain ⟨u0,u1,u2,u3,u4,u5,u6,u7,u8,u9,u10,u11,u12,u13,u14,u15,u16⟩:=hw';go_simp;try with_reducible rfl)
    (try simp only [Act.put,Till.a,Till.b,Till.c])
    refine Till.tk (i:=5) (v:=?_) rfl [6,7] hT (Or.inl ⟨by rfl,?_⟩) ?_
    rotate_left
    ·(intro w' hw';obtain ⟨u0,u1,u2,u3,u4,u5,u6,u7,u8,u9,u10,u11,u12,u13,u14,u15,u16⟩:=hw';go_simp;try with_reducible rfl)
    (try simp only [Act.put,Till.a,Till.b,Till.c])
    refine Till.tk (i:=6) (v:=?_) rfl [7] hT (Or.inl ⟨by rfl,?_⟩) ?_
    rotate_left
    ·(intro w' hw';obtain ⟨u0,u1,u2,u3,u4,u5,u6,u7,u8,u9,u10,u11,u12,u13,u14,u15,u16⟩:=hw';go_simp;try with_reducible rfl)
    (try simp only [Act.put,Till.a,Till.b,Till.c])
    refine Till.step (i:=7) (by kernel_rfl) rfl ?_
    intro K hK
    go_simp
    (go_at_call 86;refine (HFI.out _ (by exact HT4.out)).mono ?_;rintro e w5 ⟨rfl,hb5⟩;(have T5:Below w4'.heap.size w4' w5:=by exact ⟨hb5.os,hb5.tape,hb5.output,hb5.size,hb5.block⟩);(have HBL:=Lib.hid (HBL4.out.below T5)))
    have hT:=HSB.out _ T5
    refine hK.out _ _ (fun _=>hT) ?_
    clear hK K
    (try simp only [Act.put,Till.a,Till.b,Till.c])
    refine Till.step (i:=8) (by kernel_rfl) rfl ?_
    intro K hK
    go_simp
    (go_at_call 43;refine (write_c b (tg.data.toList++fldsL m q fs vs j) X _ (by exact HBL.out) (by have:=HLN.out;have:=HSZ.out;omega)).mono ?_;rintro e w6 ⟨rfl,hbl6,hbb6,hkp6⟩)
    refine hK.out _ _ (fun h=>absurd h (by decide)) ?_
    clear hK K
    (try simp only [Act.put,Till.a,Till.b,Till.c])
    refine Till.done (by kernel_rfl) ?_ _
    have HBN:=Lib.hid (HB45.out.trans ((T5.mono hz5).trans hbb6))
    rw [<- HLX.out] at hbl6
    go_wp2
    go_roundw
    case rel=>exact ⟨j+1,by omega,by go_num,hbl6,HBN⟩
    case measure=>simp [intOf];omega
   ·have HMK:=HMK0
    obtain ⟨X,hX⟩:∃ x,mrkS m q ⟨nm,kd,wi,pl,fm,rt,fl,nd⟩ s=x:=⟨_,rfl⟩
    rw [hX] at HMK HZ2
    unfold RetS at HMK
    have hmr2:0<=m/\m<128:=by rcases hmr with h | h;exact absurd h h0;exact h
    have henc:=enc_small hmr2.1 hmr2.2
    obtain ⟨MB,hMB⟩:∃ x,(⟨#[UInt8.ofNat m.toNat]⟩:ByteArray)=x:=⟨_,rfl⟩
    have hMs:MB.size=1:=by rw [<- hMB];rfl
    have HMD:=Lib.hid (show MB.data.toList=[qB m] by rw [<- hMB];rfl)
    rw [hMB] at henc
    have hcv:∀ w,(convert 5 9 (.int .u8 m)).run Tryz.prog w=.ok (.string MB) w:=fun w=>by rw [<- henc];exact run_convert_int_string _ _ _ _ _ (by kernel_rfl) (by kernel_rfl)
    have hXz:=HZ2.out
    have hcat:¬ 9223372036854775807<1+X.size:=by omega
    have HSZ:=Lib.hid (show (MB++X).size<=1001 by rw [ByteArray.size_append];omega)
    have HLX:=Lib.hid (show tg.data.toList++fldsL m q fs vs (j+1)=tg.data.toList++fldsL m q fs vs j++(MB++X).data.toList by rw [HNX.out,<- List.append_assoc,ByteArray.data_append,Array.toList_append,HMD.out];unfold fldL;rw [if_neg h0,hX];rfl)
    have k0:(m==0)=false:=beq_eq_false_iff_ne.2 h0
    clear h0 hX HMK0 HFI0 HZ1 HZ2 hMB henc
    go_upto_region 9 with fail
    clear f0 f1 f2 f3 f4 f5 f6 f7
    refine region_till 12 (fun w':World=>w'.cell? ⟨w.heap.size,0,none⟩=some (.int .u8 m)/\w'.cell? ⟨w.heap.size,1,none⟩=some (.int .u8 q)/\w'.cell? ⟨w.heap.size,2,none⟩=some (.slice A n cp)/\w'.cell? ⟨w.heap.size,3,none⟩=some (.string hd)/\w'.cell? ⟨w.heap.size,4,none⟩=some (.string tl)/\w'.cell? ⟨w.heap.size,5,none⟩=some (.string ct)/\w'.cell? ⟨w.heap.size,6,none⟩=some (.string sm)/\w'.cell? ⟨c0n,0,none⟩=some (.string nm)/\w'.cell? ⟨c0n,1,none⟩=some (.int .i64 kd)/\w'.cell? ⟨c0n,2,none⟩=some (.int .i64 wi)/\w'.cell? ⟨c0n,3,none⟩=some (.int .i64 pl)/\w'.cell? ⟨c0n,4,none⟩=some (.int .i64 fm)/\w'.cell? ⟨c0n,5,none⟩=some (.bool rt)/\w'.cell? ⟨c0n,6,none⟩=some (.int .u8 fl)/\w'.cell? ⟨c0n,7,none⟩=some (.bool nd)/\w'.cell? ⟨w.heap.size+1,1,none⟩=some (.slice (some ⟨b2,off2,none⟩) nv RC)/\w'.cell? ⟨b2,off2+j,none⟩=some (.string s)) (by kernel_rfl) ?_
    refine Till.tk (i:=0) (v:=?_) rfl [1,2,11] hT (Or.inl ⟨by rfl,?_⟩) ?_
    rotate_left
    ·(intro w' hw';obtain ⟨u0,u1,u2,u3,u4,u5,u6,u7,u8,u9,u10,u11,u12,u13,u14,u15,u16⟩:=hw';go_simp;try with_reducible rfl)
    (try simp only [Act.put,Till.a,Till.b,Till.c])
    refine Till.tk (i:=1) (v:=?_) rfl [2,11] hT (Or.inl ⟨by rfl,?_⟩) ?_
    rotate_left
    ·(intro w' hw';obtain ⟨u0,u1,u2,u3,u4,u5,u6,u7,u8,u9,u10,u11,u12,u13,u14,u15,u16⟩:=hw';go_simp;try with_reducible rfl)
    (try simp only [Act.put,Till.a,Till.b,Till.c])
    refine Till.tk (i:=2) (v:=?_) rfl [11] hT (Or.inl ⟨by rfl,?_⟩) ?_
    rotate_left
    ·(intro w' hw';obtain ⟨u0,u1,u2,u3,u4,u5,u6,u7,u8,u9,u10,u11,u12,u13,u14,u15,u16⟩:=hw';go_simp;try with_reducible rfl)
    (try simp only [Act.put,Till.a,Till.b,Till.c])
    refine Till.tk (i:=3) (v:=?_) rfl [10,11] hT (Or.inl ⟨by rfl,?_⟩) ?_
    rotate_left
    ·(intro w' hw';obtain ⟨u0,u1,u2,u3,u4,u5,u6,u7,u8,u9,u10,u11,u12,u13,u14,u15,u16⟩:=hw';go_simp;try with_reducible rfl)
    (try simp only [Act.put,Till.a,Till.b,Till.c])
    refine Till.tk (i:=4) (v:=?_) rfl [10,11] hT (Or.inl ⟨by rfl,?_⟩) ?_
    rotate_left
    ·(intro w' hw';obtain ⟨u0,u1,u2,u3,u4,u5,u6,u7,u8,u9,u10,u11,u12,u13,u14,u15,u16⟩:=hw';go_simp;try with_reducible rfl)
    (try simp only [Act.put,Till.a,Till.b,Till.c])
    refine Till.tk (i:=5) (v:=?_) rfl [6,8,9,10,11] hT (Or.inl ⟨by rfl,?_⟩) ?_
    rotate_left
    ·(intro w' hw';obtain ⟨u0,u1,u2,u3,u4,u5,u6,u7,u8,u9,u10,u11,u12,u13,u14,u15,u16⟩:=hw';go_simp;try with_reducible rfl)
    (try simp only [Act.put,Till.a,Till.b,Till.c])
    refine Till.tk (i:=6) (v:=?_) rfl [8,9,10,11] hT (Or.inl ⟨by rfl,?_⟩) ?_
    rotate_left
    ·(intro w' hw';obtain ⟨u0,u1,u2,u3,u4,u5,u6,u7,u8,u9,u10,u11,u12,u13,u14,u15,u16⟩:=hw';go_simp;try with_reducible rfl)
    (try simp only [Act.put,Till.a,Till.b,Till.c])
    refine Till.tk (i:=7) (v:=?_) rfl [8,9,10,11] hT (Or.inl ⟨by rfl,?_⟩) ?_
    rotate_left
    ·(intro w' hw';obtain ⟨u0,u1,u2,u3,u4,u5,u6,u7,u8,u9,u10,u11,u12,u13,u14,u15,u16⟩:=hw';go_simp;try with_reducible rfl)
    (try simp only [Act.put,Till.a,Till.b,Till.c])
    refine Till.tk (i:=8) (v:=?_) rfl [9,10,11] hT (Or.inl ⟨by rfl,?_⟩) ?_
    rotate_left
    ·(intro w' hw';obtain ⟨u0,u1,u2,u3,u4,u5,u6,u7,u8,u9,u10,u11,u12,u13,u14,u15,u16⟩:=hw';go_simp;try with_reducible rfl)
    (try simp only [Act.put,Till.a,Till.b,Till.c])
    refine Till.tk (i:=9) (v:=?_) rfl [10,11] hT (Or.inl ⟨by rfl,?_⟩) ?_
    rotate_left
    ·(intro w' hw';obtain ⟨u0,u1,u2,u3,u4,u5,u6,u7,u8,u9,u10,u11,u12,u13,u14,u15,u16⟩:=hw';go_simp;try with_reducible rfl)
    (try simp only [Act.put,Till.a,Till.b,Till.c])
    refine Till.step (i:=10) (by kernel_rfl) rfl ?_
    intro K hK
    go_simp
    (go_at_call 87;refine (HMK.out _ (by exact HT4.out) (by exact HM4.out)).mono ?_;rintro e w5 ⟨rfl,hb5⟩;(have T5:Below w4'.heap.size w4' w5:=by exact ⟨hb5.os,hb5.tape,hb5.output,hb5.size,hb5.block⟩);(have HBL:=Lib.hid (HBL4.out.below T5)))
    have hT:=HSB.out _ T5
    refine hK.out _ _ (fun _=>hT) ?_
    clear hK K
    (try simp only [Act.put,Till.a,Till.b,Till.c])
    refine Till.tk (i:=11) (v:=?_) rfl [] hT (Or.inl ⟨by rfl,?_⟩) ?_
    rotate_left
    ·(intro w' hw';obtain ⟨u0,u1,u2,u3,u4,u5,u6,u7,u8,u9,u10,u11,u12,u13,u14,u15,u16⟩:=hw';go_simp;try with_reducible rfl)
    (try simp only [Act.put,Till.a,Till.b,Till.c])
    refine Till.step (i:=12) (by kernel_rfl) rfl ?_
    intro K hK
    go_simp
    (go_at_call 43;refine (write_c b (tg.data.toList++fldsL m q fs vs j) (MB++X) _ (by exact HBL.out) (by have:=HLN.out;have:=HSZ.out;omega)).mono ?_;rintro e w6 ⟨rfl,hbl6,hbb6,hkp6⟩)
    refine hK.out _ _ (fun h=>absurd h (by decide)) ?_
    clear hK K
    (try simp only [Act.put,Till.a,Till.b,Till.c])
    refine Till.done (by kernel_rfl) ?_ _
    have HBN:=Lib.hid (HB45.out.trans ((T5.mono hz5).trans hbb6))
    rw [<- HLX.out] at hbl6
    go_wp2
    go_roundw
    case rel=>exact ⟨j+1,by omega,by go_num,hbl6,HBN⟩
    case measure=>simp [intOf];omega
  ·obtain rfl:j=nv:=by omega
   have HX:=Lib.hid (show bs (tg.data.toList++fldsL m q fs vs j)=R by rw [<- HR.out,HLL.out])
   go_wp2_with fail
   refine (bstr_c b _ wr HBL.out).mono ?_
   rintro e w6 ⟨rfl,hb6⟩
   rw [HX.out]
   have hB6:=HBW.out.trans (hb6.mono (by omega:w.heap.size<=b))
   go_wp2
   go_ret
   exact ⟨rfl,hB6⟩
end Go.Proofs.YtbfbgappinilmaaGreatDoor
