/- The walk of the reference's checkColumn. (Printed by genG2.py.) The walk of the reference's checkKind. -/
import Derived.Test.YtbfbgappinilmaaGreatDoorG1
import Derived.Lib.SplitLaws
import Derived.Test.YtbfbgappinilmaaGreatDoorA8
-- merged: G2 G3 G4 G5 V6 V7 VB VL Y0 ZT YP
namespace Go.Proofs.YtbfbgappinilmaaGreatDoor
open Go.RowKit Limb Nmb Work
set_option linter.unusedVariables false
set_option linter.unusedSimpArgs false
noncomputable def filS (mark:Int) (c:Col) (s:ByteArray):ByteArray :=
 if s=⟨#[]⟩ then bs (List.replicate c.width.toNat 32)
 else if c.right=true/\c.fill=48/\Lib.hasPrefix (wrS mark c s).data.toList [45]=true then bs (45 :: (List.replicate (c.width.toNat-(wrS mark c s).size) 48++(wrS mark c s).data.toList.drop 1))
 else if c.right=true then bs (List.replicate (c.width.toNat-(wrS mark c s).size) (UInt8.ofNat c.fill.toNat)++(wrS mark c s).data.toList)
 else if c.kind=3 then wrS mark c s
 else bs ((wrS mark c s).data.toList++List.replicate (c.width.toNat-(wrS mark c s).size) (UInt8.ofNat c.fill.toNat))
def qB (q:Int):UInt8:=UInt8.ofNat q.toNat
noncomputable def mrkS (mark quote:Int) (c:Col) (s:ByteArray):ByteArray :=
 if quote=0∨(Lib.indexByte (wrS mark c s).data.toList (qB mark)<0/\Lib.indexByte (wrS mark c s).data.toList (qB quote)<0) then wrS mark c s
 else bs ([qB quote]++Lib.replaceAll (wrS mark c s).data.toList [qB quote] [qB quote,qB quote]++[qB quote])
noncomputable def fldL (mark quote:Int) (c:Col) (s:ByteArray):List UInt8:=if mark=0 then (filS mark c s).data.toList else qB mark :: (mrkS mark quote c s).data.toList
noncomputable def fldsL (mark quote:Int) (fs:List Col) (vs:List ByteArray) (j:Nat):List UInt8:=(List.range j).flatMap fun i=>fldL mark quote (cA fs i) (wd vs i)
theorem fldsL_zero (mark quote:Int) (fs:List Col) (vs:List ByteArray):fldsL mark quote fs vs 0=[]:=rfl
theorem fldsL_succ (mark quote:Int) (fs:List Col) (vs:List ByteArray) (j:Nat):fldsL mark quote fs vs (j+1)=fldsL mark quote fs vs j++fldL mark quote (cA fs j) (wd vs j):=by
 unfold fldsL
 rw [List.range_succ,List.flatMap_append]
 simp
noncomputable def lineL (f:Fmt) (r:RowP):List UInt8:=r.tag.data.toList++fldsL f.mark f.quote (katK f r.tag).fields r.vals (katK f r.tag).fields.length
theorem repK_len (old new:List UInt8):∀ (k:Nat) (s:List UInt8),(Lib.replaceK old new k s).length<=s.length+k*new.length:=by
 intro k
 induction k with
 | zero=>intro s;simp [Lib.replaceK]
 | succ k ih=>
  intro s
  unfold Lib.replaceK
  split
  ·omega
  ·have:=ih (s.drop ((Lib.index s old).toNat+old.length))
   rw [List.length_append,List.length_append,List.length_take,Nat.add_mul]
   rw [List.length_drop] at this
   omega
theorem repA_len (l:List UInt8) (q:UInt8):(Lib.replaceAll l [q] [q,q]).length<=3*l.length:=by
 unfold Lib.replaceAll Lib.replace
 have hb:(([q]:List UInt8)==[q,q])=false:=by simp
 rw [hb]
 simp only [Bool.false_eq_true,if_false]
 have h1:=repK_len [q] [q,q] (Lib.replaceNum l [q] (-1)) l
 have h2:Lib.replaceNum l [q] (-1)<=l.length:=by
  unfold Lib.replaceNum
  rw [if_pos (by omega),Lib.count_one]
  exact List.count_le_length
 simp only [List.length_cons,List.length_nil] at h1
 omega
theorem dayS_size {form day:Int} (hf:formW form≠0) (hd:1<=day/\day<=3652059):((dayS form day).size:Int)=formW form:=by
 obtain ⟨⟨y1,y2⟩,⟨m1,m2⟩,⟨d1,d2⟩,-,-,-⟩:=(dateC_is hd).facts
 have hZ:=dateC_is (thu_bd hd.1 hd.2)
 obtain ⟨⟨z1,z2⟩,-,-,-,b1,b2⟩:=hZ.facts
 have hw:=wk_bd b1 b2
 unfold dayS dtS
 generalize (dateC day).1=y at *
 generalize (dateC day).2.1=m at *
 generalize (dateC day).2.2=d at *
 generalize (dateC (thu day)).1=z at *
 have s0:(padS y 4).size=4:=padS_size (by omega) (by omega)
 have s1:(padS m 2).size=2:=padS_size (by omega) (by omega)
 have s2:(padS d 2).size=2:=padS_size (by omega) (by omega)
 have s3:(padS z 4).size=4:=padS_size (by omega) (by omega)
 have s4:(padS (wk day z) 2).size=2:=padS_size (by omega) (by omega)
 have s5:(padS ((day-1)%7+1) 1).size=1:=padS_size (by omega) (by omega)
 have s6:(⟨#[45]⟩:ByteArray).size=1:=rfl
 unfold formW at hf ⊢
 have:form=1∨form=3∨form=4∨form=5:=by
  split at hf
  ·omega
  ·split at hf
   ·omega
   ·split at hf
    ·omega
    ·exact absurd rfl hf
 rcases this with rfl | rfl | rfl | rfl<;>simp [ByteArray.size_append,s0,s1,s2,s3,s4,s5,s6]
theorem rep_bs (b:UInt8) (k:Nat):(⟨(Lib.repeatL (⟨#[b]⟩:ByteArray).data.toList k).toArray⟩:ByteArray)=bs (List.replicate k b):=by
 show (⟨(Lib.repeatL [b] k).toArray⟩:ByteArray)=_
 rw [rep_one]
 rfl
theorem repeat_c (b:UInt8) (k:Nat) (w:World) (hk:k<=1000):Calls Tryz.prog 67 #[.string ⟨#[b]⟩,.int .i64 (k:Int)] w fun e w'=>e=.returned (.string (bs (List.replicate k b)))/\Below w.heap.size w w':=by
 refine (Tryz.strings_Repeat ⟨#[b]⟩ k w (by omega) (by show 1*k<=_;omega)).mono ?_
 rintro e w' ⟨rfl,hb⟩
 exact ⟨by rw [rep_bs],hb⟩
theorem bs_cat (x y:ByteArray) (l l':List UInt8) (hx:x.data.toList=l) (hy:y.data.toList=l'):x++y=bs (l++l'):=by
 refine (bs_self _).symm.trans (congrArg bs ?_)
 rw [ByteArray.data_append,Array.toList_append,hx,hy]
theorem bs_data (l:List UInt8):(bs l).data.toList=l:=rfl
theorem repl_size (k:Nat) (b:UInt8):(bs (List.replicate k b)).size=k:=by show (List.replicate k b).toArray.size=k;simp
set_option maxHeartbeats 4000000 in
set_option maxRecDepth 100000 in
theorem fill6_c (f:Fmt) (A:Option Addr) (n cp:Nat) (c:Col) (s:ByteArray) (w:World) (hs:s.size<=9223372036854775807) (hv:s≠⟨#[]⟩->valOk c s.data.toList=true) (hk:ColK f.mark c) (hm0:f.mark=0) (hw:((wrS f.mark c s).size:Int)<=c.width) (ht:Tab w) :
  Calls Tryz.prog 86 #[.agg #[.int .u8 f.mark,.int .u8 f.quote,.slice A n cp,.string f.head,.string f.tail,.string f.count,.string f.sum],colG c,.string s] w (RetS (filS f.mark c s) w):=by
 have HW:=Lib.hid (fun w ht=>written_c f A n cp c s w hs hv hk ht)
 obtain ⟨m,q,ks,hd,tl,ct,sm⟩:=f
 obtain ⟨hkk,hwd,-,hfo,hfix,hday,hleft⟩:=hk
 have hDS:s≠⟨#[]⟩->c.kind=3->((wrS m c s).size:Int)=c.width:=fun h0 h3=>by
  have h1:=hv h0
  unfold valOk at h1
  rw [if_neg (by omega),if_pos h3] at h1
  obtain ⟨v,hvd⟩:∃ v,readO 1 1 s.data.toList=some v:=Option.isSome_iff_exists.1 h1
  have e:wrS m c s=dayS c.form v:=by
   unfold wrS
   rw [if_neg h0,if_neg (fun h=>by omega),if_pos h3]
   unfold dayN
   rw [hvd]
   rfl
  rw [e,dayS_size (hfo h3) (readO_day hvd),hday hm0 h3]
 obtain ⟨nm,kd,wi,pl,fm,rt,fl,nd⟩:=c
 unfold colG at HW ⊢
 simp only at HW hkk hwd hfo hfix hday hleft hDS hm0 hw ⊢
 subst hm0
 have hFl:=fun h=>hfix rfl h
 have hF0:=heap_old (heap_new w (.cells #[.int .u8 0,.int .u8 q,.slice A n cp,.string hd,.string tl,.string ct,.string sm] 44) rfl) (.cells #[.string nm,.int .i64 kd,.int .i64 wi,.int .i64 pl,.int .i64 fm,.bool rt,.int .u8 fl,.bool nd] 91)
 have hC0:=heap_new (w.alloc (.cells #[.int .u8 0,.int .u8 q,.slice A n cp,.string hd,.string tl,.string ct,.string sm] 44)) (.cells #[.string nm,.int .i64 kd,.int .i64 wi,.int .i64 pl,.int .i64 fm,.bool rt,.int .u8 fl,.bool nd] 91) (g:=w.heap.size+1) (by simp)
 have hB0:Below w.heap.size w ((w.alloc (.cells #[.int .u8 0,.int .u8 q,.slice A n cp,.string hd,.string tl,.string ct,.string sm] 44)).alloc (.cells #[.string nm,.int .i64 kd,.int .i64 wi,.int .i64 pl,.int .i64 fm,.bool rt,.int .u8 fl,.bool nd] 91)):=by go_grown
 have HTB:=Lib.hid (ht.below hB0)
 have hE:filS 0 ⟨nm,kd,wi,pl,fm,rt,fl,nd⟩ s=filS 0 ⟨nm,kd,wi,pl,fm,rt,fl,nd⟩ s:=rfl
 obtain ⟨RS,hRS⟩:∃ x,filS 0 ⟨nm,kd,wi,pl,fm,rt,fl,nd⟩ s=x:=⟨_,rfl⟩
 rw [hRS]
 obtain ⟨W,hW⟩:∃ x,wrS 0 ⟨nm,kd,wi,pl,fm,rt,fl,nd⟩ s=x:=⟨_,rfl⟩
 unfold filS at hRS
 simp only at hRS
 rw [hW] at hRS HW hw hDS
 have HRS:=Lib.hid hRS
 have HWW:=Lib.hid hW
 obtain ⟨K,hK⟩:∃ K:Nat,wi=(K:Int):=⟨wi.toNat,by omega⟩
 subst hK
 simp only [Int.toNat_natCast] at HRS
 obtain ⟨k,hkr⟩:∃ k:Nat,(K:Int)-(W.size:Int)=(k:Int):=⟨K-W.size,by omega⟩
 have HKR:=Lib.hid hkr
 have HKN:=Lib.hid (show K-W.size=k by omega)
 have hmx:max (0:Int) ((K:Int)-(W.size:Int))=(k:Int):=by omega
 have hk100:k<=1000:=by omega
 have hK100:K<=1000:=by omega
 have hWb:W.size<=1000:=by omega
 have hcv:∀ w,(convert 5 9 (.int .u8 fl)).run Tryz.prog w=.ok (.string (Utf8.encode fl)) w:=fun w=>run_convert_int_string _ _ _ _ _ (by kernel_rfl) (by kernel_rfl)
 have g1:=emp_dec s
 clear hE hRS hW ht hfix hv
 go_enter Tryz.func86,Tryz.ntmps86
 obtain ⟨⟨f0,f1,f2,f3,f4,f5,f6⟩,f7⟩:=obox7 hF0
 obtain ⟨⟨x0,x1,x2,x3,x4,x5,x6,x7⟩,x8⟩:=obox8 hC0
 go_wp2_with fail
 refine (HW.out _ HTB.out).mono ?_
 rintro e w1 ⟨rfl,hb1⟩
 have HB1:=Lib.hid (below_then hb1 hB0 hB0.size)
 have HC1:=Lib.hid (heap_below hC0 hb1)
 clear f0 f1 f2 f3 f4 f5 f6 f7 x0 x1 x2 x3 x4 x5 x6 x7 x8 hF0 hC0 hb1 hB0
 have hz1:=HB1.out.size
 obtain ⟨⟨x0,x1,x2,x3,x4,x5,x6,x7⟩,x8⟩:=obox8 HC1.out
 by_cases h0:s=⟨#[]⟩
 ·rw [decide_eq_true h0] at g1
  have hW0:W=⟨#[]⟩:=by rw [<- HWW.out];exact if_pos h0
  subst hW0
  have HX:=Lib.hid (show bs (List.replicate K 32)=RS by rw [<- HRS.out,if_pos h0])
  have HREP:=Lib.hid (fun w=>repeat_c 32 K w hK100)
  have hRz:=repl_size K 32
  obtain ⟨R,hR⟩:∃ x,bs (List.replicate K 32)=x:=⟨_,rfl⟩
  rw [hR] at HX HREP hRz
  clear h0 hR
  go_wp2_with fail
  refine (HREP.out _).mono ?_
  rintro e w2 ⟨rfl,hb2⟩
  have hB2:=below_then hb2 HB1.out HB1.out.size
  go_wp2
  go_ret
  exact ⟨congrArg (fun b=>Ending.returned (Value.string b)) HX.out,hB2⟩
 rw [decide_eq_false h0] at g1
 have HRS2:=Lib.hid (show (if rt=true/\fl=48/\Lib.hasPrefix W.data.toList [45]=true then bs (45 :: (List.replicate k 48++W.data.toList.drop 1)) else if rt=true then bs (List.replicate k (UInt8.ofNat fl.toNat)++W.data.toList) else if kd=3 then W else bs (W.data.toList++List.replicate k (UInt8.ofNat fl.toNat)))=RS by rw [<- HRS.out,if_neg h0,HKN.out])
 have hDS:=hDS h0
 have HP:=Lib.hid (fun w=>Tryz.strings_HasPrefix W ⟨#[45]⟩ w)
 have HR48:=Lib.hid (fun w=>repeat_c 48 k w hk100)
 have hz48:=repl_size k 48
 by_cases h3:kd=3
 ·have hrt:rt=false:=hleft h3
  have HX:=Lib.hid (show W=RS by rw [<- HRS2.out,hrt,if_neg (by simp),if_neg (by simp),if_pos h3])
  have hk0:k=0:=by have:=hDS h3;omega
  subst hrt
  subst h3
  clear hDS hFl h0 hleft hday
  go_wp2
  go_ret
  exact ⟨congrArg (fun b=>Ending.returned (Value.string b)) HX.out,HB1.out⟩
 have hf2:=hFl h3
 have k3:(kd==3)=false:=beq_eq_false_iff_ne.2 h3
 have hflr:0<=fl/\fl<128:=by omega
 have henc:=enc_small hflr.1 hflr.2
 obtain ⟨FB,hFB⟩:∃ x,UInt8.ofNat fl.toNat=x:=⟨_,rfl⟩
 rw [hFB] at HRS2 henc
 rw [henc] at hcv
 have HRF:=Lib.hid (fun w=>repeat_c FB k w hk100)
 have hzf:=repl_size k FB
 obtain ⟨R,hR⟩:∃ x,bs (List.replicate k FB)=x:=⟨_,rfl⟩
 have HRD:=Lib.hid (show R.data.toList=List.replicate k FB by rw [<- hR];rfl)
 rw [hR] at HRF hzf
 have hcat1:¬ 9223372036854775807<R.size+W.size:=by omega
 have hcat2:¬ 9223372036854775807<W.size+R.size:=by omega
 have HDS:=Lib.hid h3
 clear hFB hR hFl hDS hleft hday h0 h3 henc
 cases rt with
 | false=>
  have hf32:fl=32:=by rcases hf2 with h | h;exact h;cases h.2.2
  have k48:(fl==48)=false:=by rw [hf32];rfl
  have HX:=Lib.hid (show W++R=RS by rw [<- HRS2.out,if_neg (by simp),if_neg (by simp),if_neg HDS.out];exact bs_cat _ _ _ _ rfl HRD.out)
  clear hf2 hf32
  go_wp2_with fail
  refine (HRF.out _).mono ?_
  rintro e w2 ⟨rfl,hb2⟩
  have hB2:=below_then hb2 HB1.out HB1.out.size
  go_wp2
  go_ret
  exact ⟨congrArg (fun b=>Ending.returned (Value.string b)) HX.out,hB2⟩
 | true=>
  by_cases h48:fl=48
  case neg=>
   have k48:(fl==48)=false:=beq_eq_false_iff_ne.2 h48
   have HX:=Lib.hid (show R++W=RS by rw [<- HRS2.out,if_neg (fun h=>h48 h.2.1),if_pos rfl];exact bs_cat _ _ _ _ HRD.out rfl)
   clear hf2 h48
   go_wp2_with fail
   refine (HRF.out _).mono ?_
   rintro e w2 ⟨rfl,hb2⟩
   have hB2:=below_then hb2 HB1.out HB1.out.size
   go_wp2
   go_ret
   exact ⟨congrArg (fun b=>Ending.returned (Value.string b)) HX.out,hB2⟩
  have k48:(fl==48)=true:=by simpa using h48
  obtain ⟨PB,hPB⟩:∃ x,Lib.hasPrefix W.data.toList [45]=x:=⟨_,rfl⟩
  have HPP:=Lib.hid (show ∀ w,Calls Tryz.prog 114 #[.string W,.string ⟨#[45]⟩] w fun e w'=>e=.returned (.bool PB)/\w'=w from fun w=>by rw [<- hPB];exact HP.out w)
  cases PB with
  | false=>
   have HX:=Lib.hid (show R++W=RS by rw [<- HRS2.out,if_neg (fun h=>by rw [h.2.2] at hPB;cases hPB),if_pos rfl];exact bs_cat _ _ _ _ HRD.out rfl)
   clear hf2 h48 hPB
   go_wp2_with fail
   refine (HPP.out _).mono ?_
   rintro e w2 ⟨rfl,rfl⟩
   go_wp2_with fail
   refine (HRF.out _).mono ?_
   rintro e w2 ⟨rfl,hb2⟩
   have hB2:=below_then hb2 HB1.out HB1.out.size
   go_wp2
   go_ret
   exact ⟨congrArg (fun b=>Ending.returned (Value.string b)) HX.out,hB2⟩
  | true=>
   have hW1:1<=W.size:=by
    rcases Nat.eq_zero_or_pos W.size with h | h
    ·have:W.data.toList=[]:=List.length_eq_zero_iff.1 (by simpa using h)
     rw [this] at hPB
     cases hPB
    ·exact h
   obtain ⟨Z,hZ⟩:∃ x,bs (List.replicate k 48)=x:=⟨_,rfl⟩
   have HZD:=Lib.hid (show Z.data.toList=List.replicate k 48 by rw [<- hZ];rfl)
   rw [hZ] at HR48 hz48
   obtain ⟨E,hEx⟩:∃ x,W.extract 1 W.size=x:=⟨_,rfl⟩
   have hEs:E.size<=1000:=by rw [<- hEx,ByteArray.size_extract];omega
   have hW1i:(1:Int)<=(W.size:Int):=by omega
   have HX:=Lib.hid (show (⟨#[45]⟩:ByteArray)++Z++E=RS by
    rw [<- HRS2.out,if_pos ⟨rfl,h48,hPB⟩,<- hEx]
    refine bs_cat _ _ (45 :: List.replicate k 48) _ ?_ (ext_drop W 1)
    rw [ByteArray.data_append,Array.toList_append,HZD.out]
    rfl)
   have hcz1:¬ 9223372036854775807<1+k:=by omega
   have hcz2:¬ 9223372036854775807<1+k+E.size:=by omega
   clear hf2 h48 hPB hZ
   go_wp2_with fail
   refine (HPP.out _).mono ?_
   rintro e w2 ⟨rfl,rfl⟩
   go_wp2_with fail
   go_region_held3 (fun _=>True) (exact True.intro) (first | (go_at_call 67;refine (HR48.out _).mono ?_;rintro e w2 ⟨rfl,hb2'⟩))
   have hb2:=hb2'
   have hB2:=below_then hb2 HB1.out.drew HB1.out.size
   go_wp2
   go_ret
   exact ⟨congrArg (fun b=>Ending.returned (Value.string b)) HX.out,hB2⟩
def Bld (w:World) (b:Nat) (l:List UInt8):Prop:=Lib.IsBuilderF 95 5 b b (Lib.byteCells l) w
theorem Bld.new (w:World):Bld (w.alloc (.cells #[.pointer none,.slice none 0 0] 95)) w.heap.size []:=Lib.IsBuilderF.of (Lib.fresh_isBuilder _ 5 w)
theorem Bld.below {w w':World} {b:Nat} {l:List UInt8} (h:Bld w b l) (hb:Below w.heap.size w w'):Bld w' b l:=by
 have hk:∀ p,Lib.BuilderAtF 95 5 b b p (Lib.byteCells l) w->Lib.BuilderAtF 95 5 b b p (Lib.byteCells l) w':=by
  intro p hh
  have hlt:=hh.lt
  obtain ⟨hB,v,hv,hown,hne⟩:=hh
  exact ⟨hB,v,(hb.block b hlt).trans hv,hown.kept (row:=none) (grown_of hb none) (Classical.em _),hne⟩
 exact h.elim (fun x=>.inl (hk _ x)) (fun x=>.inr (hk _ x))
theorem Bld.lt {w:World} {b:Nat} {l:List UInt8} (h:Bld w b l):b<w.heap.size:=h.elim (fun x=>x.lt) (fun x=>x.lt)
def RetWS (s:ByteArray) (b:Nat) (l:List UInt8) (w:World) (e:Ending) (w':World):Prop :=
 e=.returned (.tuple #[.int .i64 s.size,.nilIface])/\Bld w' b (l++s.data.toList)/\Below b w w'/\∀ (k:Nat) (cs:Array Value) (T:TypeId) (fz:Nat×Nat),w.heap[k]?=some (.cells cs T fz)->k≠b->T≠5->w'.heap[k]?=some (.cells cs T fz)
theorem write_c (b:Nat) (l:List UInt8) (s:ByteArray) (w:World) (h:Bld w b l) (hlen:l.length+s.size<=1000000) :
  Calls Tryz.prog 43 #[.pointer (some ⟨b,0,none⟩),.string s] w (RetWS s b l w):=by
 refine (Tryz.wstrk_c b b (Lib.byteCells l) s w h (by rw [Lib.byteCells_length];omega) (Nat.le_of_lt h.lt)).mono ?_
 rintro e w' ⟨rfl,hat,hbl,hok⟩
 rw [Lib.strCells_eq,<- Lib.byteCells_append] at hat
 refine ⟨rfl,Or.inr hat,hbl,fun k cs T fz hh hk hT=>hok k _ hh (fun e=>hk (Option.some.inj e)) (fun c z e=>?_)⟩
 injection e with _ e
 exact hT e
theorem bstr_c (b:Nat) (l:List UInt8) (w:World) (h:Bld w b l) :
  Calls Tryz.prog 45 #[.pointer (some ⟨b,0,none⟩)] w fun e w'=>e=.returned (.string (bs l))/\Below b w w':=by
 refine (Tryz.Builder_String_any_f b b l w h (Nat.le_of_lt h.lt)).mono ?_
 rintro e w' ⟨rfl,-,hb⟩
 exact ⟨rfl,hb⟩
theorem frF_zero {g:Nat->Int} : ∀ {n:Nat},(frF g n).2=0->∀ j,j<n->g j=0
 | 0,_,j,hj=>absurd hj (Nat.not_lt_zero _)
 | n+1,h,j,hj=>by
  unfold frF at h
  split at h
  ·rename_i h2
   split at h
   ·rename_i h3
    rcases Nat.lt_or_ge j n with h4 | h4
    ·exact frF_zero h2 j h4
    ·obtain rfl:j=n:=by omega
     exact h3
   ·rename_i h3;exact absurd h h3
  ·rename_i h2;exact absurd h h2
structure RowK (f:Fmt) (r:RowP):Prop where
 kind:0<=katI f r.tag
 many:r.vals.length=(katK f r.tag).fields.length
 vals:∀ j,j<(katK f r.tag).fields.length->valF f.mark f.quote (cA (katK f r.tag).fields j) (wd r.vals j)=0
theorem rowF_ok {f:Fmt} {r:RowP} (h:(rowF f r).2=0):RowK f r:=by
 unfold rowF at h
 split at h
 ·cases h
 rename_i h1
 split at h
 ·cases h
 rename_i h2
 exact ⟨by omega,Classical.byContradiction h2,frF_zero h⟩
theorem valF_ok {m q:Int} {c:Col} {s:ByteArray} (hw:0<=c.width) (h:valF m q c s=0):(s≠⟨#[]⟩->valOk c s.data.toList=true)/\((wrS m c s).size:Int)<=c.width:=by
 unfold valF at h
 split at h
 ·rename_i h0
  refine ⟨fun k=>absurd h0 k,?_⟩
  unfold wrS
  rw [if_pos h0]
  exact hw
 split at h
 ·cases h
 rename_i h1
 split at h
 ·cases h
 rename_i h2
 exact ⟨fun _=>by cases hv:valOk c s.data.toList with | true=>rfl | false=>exact absurd hv h1,by omega⟩
theorem bs_size2 (l:List UInt8):(bs l).size=l.length:=by show l.toArray.size=_;simp
theorem data_len (x:ByteArray):x.data.toList.length=x.size:=by simp
theorem fil_len {m:Int} {c:Col} {s:ByteArray} (hw:1<=c.width/\c.width<=100) (h:((wrS m c s).size:Int)<=c.width):(filS m c s).size<=1000:=by
 unfold filS
 split
 ·rw [bs_size2,List.length_replicate];omega
 split
 ·rw [bs_size2,List.length_cons,List.length_append,List.length_replicate,List.length_drop,data_len];omega
 split
 ·rw [bs_size2,List.length_append,List.length_replicate,data_len];omega
 split
 ·omega
 ·rw [bs_size2,List.length_append,List.length_replicate,data_len];omega
theorem mrk_len {m q:Int} {c:Col} {s:ByteArray} (hw:1<=c.width/\c.width<=100) (h:((wrS m c s).size:Int)<=c.width):(mrkS m q c s).size<=1000:=by
 unfold mrkS
 split
 ·omega
 ·have h1:=repA_len (wrS m c s).data.toList (qB q)
  rw [data_len] at h1
  rw [bs_size2,List.length_append,List.length_append,List.length_singleton]
  omega
theorem fld_len {m q:Int} {c:Col} {s:ByteArray} (hw:1<=c.width/\c.width<=100) (h:((wrS m c s).size:Int)<=c.width):(fldL m q c s).length<=1001:=by
 unfold fldL
 split
 ·rw [data_len];have:=fil_len hw h;omega
 ·rw [List.length_cons,data_len];have:=mrk_len (q:=q) hw h;omega
theorem flds_len {m q:Int} {fs:List Col} {vs:List ByteArray} {n:Nat} (h:∀ j,j<n->(1<=(cA fs j).width/\(cA fs j).width<=100)/\((wrS m (cA fs j) (wd vs j)).size:Int)<=(cA fs j).width):∀ j,j<=n->(fldsL m q fs vs j).length<=1001*j:=by
 intro j
 induction j with
 | zero=>intro _;exact Nat.zero_le _
 | succ j ih=>
  intro hj
  rw [fldsL_succ,List.length_append]
  have h1:=ih (by omega)
  have h2:=fld_len (q:=q) (h j (by omega)).1 (h j (by omega)).2
  omega
theorem keep_heap {B:Nat} {w w':World} {g:Nat} {o:Obj} (h:w.heap[g]?=some o) (hb:Below B w w') (hg:g<B):w'.heap[g]?=some o:=(hb.block g hg).trans h
def row0:RowP:=⟨⟨#[]⟩,[]⟩
def rA (rs:List RowP) (j:Nat):RowP:=rs.getD j row0
theorem rA_get {rs:List RowP} {j:Nat} (h:j<rs.length):rs[j]=rA rs j:=by simp [rA,List.getD_eq_getElem?_getD,h]
noncomputable def rowsF (f:Fmt) (rs:List RowP):Int×Int:=frF (fun j=>(rowF f (rA rs j)).2) rs.length
noncomputable def askF (f:Fmt) (rs:List RowP):Int:=if checkF f≠0 then checkF f else if 2000<rs.length then 2 else (rowsF f rs).2
theorem askF_ok {f:Fmt} {rs:List RowP} (h:askF f rs=0):checkF f=0/\rs.length<=2000/\∀ j,j<rs.length->RowK f (rA rs j):=by
 unfold askF at h
 split at h
 ·rename_i h1;exact absurd h h1
 rename_i h1
 split at h
 ·cases h
 rename_i h2
 exact ⟨Classical.byContradiction h1,by omega,fun j hj=>rowF_ok (frF_zero (g:=fun j=>(rowF f (rA rs j)).2) h j hj)⟩
noncomputable def colAtF (f:Fmt) (rs:List RowP) (tag name:ByteArray):Int×Col×Int :=
 if askF f rs≠0 then (0,col0,askF f rs)
 else if katI f tag<0 then (0,col0,5)
 else if ixF (nameIs name) (katK f tag).fields<0 then (0,col0,5)
 else (ixF (nameIs name) (katK f tag).fields,cA (katK f tag).fields (ixF (nameIs name) (katK f tag).fields).toNat,0)
def valsC (rs:List RowP) (tag:ByteArray) (i:Nat) (j:Nat):List ByteArray:=((rs.take j).filter (fun r=>decide (r.tag=tag))).map fun r=>wd r.vals i
theorem valsC_succ {rs:List RowP} {tag:ByteArray} {i j:Nat} (h:j<rs.length):valsC rs tag i (j+1)=valsC rs tag i j++(if (rA rs j).tag=tag then [wd (rA rs j).vals i] else []):=by
 unfold valsC
 rw [List.take_add_one,List.getElem?_eq_getElem h,rA_get h,List.filter_append,List.map_append]
 congr 1
 by_cases ht:(rA rs j).tag=tag<;>simp [ht]
theorem valsC_len (rs:List RowP) (tag:ByteArray) (i j:Nat):(valsC rs tag i j).length<=j:=by
 unfold valsC
 rw [List.length_map]
 exact Nat.le_trans (List.length_filter_le _ _) (by rw [List.length_take];omega)
noncomputable def columnR (f:Fmt) (rs:List RowP) (tag name:ByteArray):List ByteArray×Int :=
 if (colAtF f rs tag name).2.2≠0 then ([],(colAtF f rs tag name).2.2) else (valsC rs tag (colAtF f rs tag name).1.toNat rs.length,0)
def rowV (rs:List RowP) (RA:Nat->Option Addr) (RC:Nat->Nat) (j i:Nat):Value :=
 match i with
 | 0=>.string (rA rs j).tag
 | _=>.slice (RA j) (rA rs j).vals.length (RC j)
structure RowsM (w:World) (L:Option Addr) (rs:List RowP) (RA:Nat->Option Addr) (RC:Nat->Nat):Prop where
 rows:Rws w L 2 rs.length (rowV rs RA RC)
 each:∀ j,j<rs.length->RowM w (rA rs j) (RA j) (RC j)
 len:rs.length<=9223372036854775807
theorem RowsM.below {w w':World} {L:Option Addr} {rs:List RowP} {RA:Nat->Option Addr} {RC:Nat->Nat} (h:RowsM w L rs RA RC) (hb:Below w.heap.size w w'):RowsM w' L rs RA RC :=
 ⟨h.rows.below hb,fun j hj=>(h.each j hj).below hb,h.len⟩
theorem RowsM.cells {w:World} {L:Option Addr} {rs:List RowP} {RA:Nat->Option Addr} {RC:Nat->Nat} (h:RowsM w L rs RA RC) {j:Nat} (hj:j<rs.length) :
  ∃ b off,L=some ⟨b,off,none⟩/\b<w.heap.size/\w.cell? ⟨b,off+j*2,none⟩=some (.string (rA rs j).tag)/\w.cell? ⟨b,off+j*2+1,none⟩=some (.slice (RA j) (rA rs j).vals.length (RC j)):=by
 obtain ⟨b,off,e,hb,hc⟩:=h.rows.get hj
 exact ⟨b,off,e,hb,hc 0 (by decide),hc 1 (by decide)⟩
end Go.Proofs.YtbfbgappinilmaaGreatDoor
namespace Go.Proofs.YtbfbgappinilmaaGreatDoor
open Limb Nmb Work
set_option linter.unusedVariables false
set_option linter.unusedSimpArgs false
def typeB (f g:Fmt):Bool:=f.kinds.any fun k=>k.fields.any fun c=>
 decide (0<=ixF (nameIs c.name) (katK g k.tag).fields)&&decide ((cA (katK g k.tag).fields (ixF (nameIs c.name) (katK g k.tag).fields).toNat).kind≠c.kind)
def turnW (k:RKd) (vs:List ByteArray) (c:Col):ByteArray:=if ixF (nameIs c.name) k.fields<0 then ⟨#[]⟩ else wd vs (ixF (nameIs c.name) k.fields).toNat
def turnV (k o:RKd) (vs:List ByteArray):List ByteArray:=o.fields.map (turnW k vs)
def lostB (o:RKd) (c:Col) (s:ByteArray):Bool:=decide (s≠⟨#[]⟩)&&decide (ixF (nameIs c.name) o.fields<0)
def lostN (k o:RKd) (vs:List ByteArray):Nat->Nat
 | 0=>0
 | j+1=>lostN k o vs j+if lostB o (cA k.fields j) (wd vs j)=true then 1 else 0
def turnO (f g:Fmt) (r:RowP):List RowP:=if katI g r.tag<0 then [] else [⟨r.tag,turnV (katK f r.tag) (katK g r.tag) r.vals⟩]
def turnC (f g:Fmt) (r:RowP):Nat:=if katI g r.tag<0 then 1 else lostN (katK f r.tag) (katK g r.tag) r.vals (katK f r.tag).fields.length
def turnRs (f g:Fmt) (rs:List RowP):List RowP:=rs.flatMap (turnO f g)
def turnLs (f g:Fmt) (rs:List RowP):Nat->Nat
 | 0=>0
 | j+1=>turnLs f g rs j+turnC f g (rA rs j)
noncomputable def turnE (f g:Fmt) (rs:List RowP):Int :=
 if checkF f≠0 then checkF f else if checkF g≠0 then checkF g else if askF f rs≠0 then askF f rs else if typeB f g=true then 6 else (rowsF g (turnRs f g rs)).2
noncomputable def turnR (f g:Fmt) (rs:List RowP):List RowP×Nat×Int:=if turnE f g rs≠0 then ([],0,turnE f g rs) else (turnRs f g rs,turnLs f g rs rs.length,0)
end Go.Proofs.YtbfbgappinilmaaGreatDoor
namespace Go.Proofs.YtbfbgappinilmaaGreatDoor
open Go.RowKit Limb Nmb Work
set_option linter.unusedVariables false
set_option linter.unusedSimpArgs false
def ystrV (L:List ByteArray):List Value:=L.map Value.string
theorem ystrV_app (L M:List ByteArray):ystrV L++ystrV M=ystrV (L++M):=by unfold ystrV;simp
theorem yown_sts {w:World} {B:Nat} {A:Option Addr} {n c:Nat} {L:List ByteArray} (h:w.ownsRow B 9 1 (.slice A n c) n (ystrV L)) (hn:0<n):∃ g,A=some ⟨g,0,none⟩/\Sts w (some ⟨g,0,none⟩) L/\n<=c/\L.length=n:=by
 have hc:=own_cap h
 obtain ⟨h1,h2⟩:=h
 have hl:L.length=n:=by unfold ystrV at h1;rw [List.length_map] at h1;omega
 rcases h2 with ⟨h2,h3⟩|⟨g,cap,cur,hv,hb,hh,hn2,_,hs,ht⟩
 ·omega
 ·cases hv
  refine ⟨g,rfl,fun _=>⟨g,0,cur,(0,0),rfl,hh,fun j hj=>?_⟩,hc.1,hl⟩
  have h3:(ystrV L)[j]?=some (.string (wd L j)):=by unfold ystrV wd;simp [List.getD_eq_getElem?_getD,hj]
  rw [<- ht,List.getElem?_take,if_pos (by omega)] at h3
  rw [Nat.zero_add]
  simpa using h3
theorem ywpList_push_strs {P:Program} {w:World} {ops:Array Oper} {rest:List Oper} {o:Oper} {a:Act} {Q:Exit->Act->World->Prop}
  (hg:o.guard=none) (s x:Operand) (t:TypeId) (hop:o.op=Op.call { callee:=Callee.builtin Builtin.append,args:=#[s,x],argTypes:=#[t,t] })
  (base:Nat) (i:TypeInfo) (z:Value) (h1:P.underlying t=some (.slice 9)) (h2:P.info? 9=some i) (hz:i.zero=some z) (h4:i.size=1) (hby:i.bytes=16) (hzs:z.cells.size=1)
  (v:Value) (n:Nat) (L:List ByteArray) (hs:a.eval s=v) (hown:w.ownsRow base 9 1 v n (ystrV L)) (m:Nat) (us:List Value) (M:List ByteArray) (hus:us=ystrV M) (hx:a.eval x=.slice (some ⟨w.heap.size,0,none⟩) m m) (hm:M.length=m)
  (b1:n+m<=1000000) (hbase:base<=w.heap.size)
  (hK:∀ A c w',w'.ownsRow base 9 1 (.slice A (n+m) c) (n+m) (ystrV (L++M))->w.grownBy w' v.ownBlock->wpList P ops Q rest (a.put o.dst (.slice A (n+m) c)) w') :
  wpList P ops Q (o :: rest) a (w.alloc (.cells us.toArray 9)):=by
 subst hus
 exact wpList_append_own _ hg s x t hop base 9 i z 1 16 h1 h2 hz h4 hby hzs (by omega) v n (ystrV L) hs (hown.alloc _) ⟨w.heap.size,0,none⟩ m m (ystrV M) hx (by unfold ystrV;rw [List.length_map];omega) (k_cellsF w (ystrV M) 9)
  (by intro u hu;unfold ystrV at hu;obtain ⟨y,-,rfl⟩:=List.mem_map.1 hu;rfl) (by unfold maxLen;omega) (by omega) (by simp;omega) fun v' w' r1 r2 _=>by
  obtain ⟨A,c,rfl⟩:=own_slice r1
  rw [ystrV_app] at r1
  exact hK A c w' r1 (grown_alloc r2)
end Go.Proofs.YtbfbgappinilmaaGreatDoor
