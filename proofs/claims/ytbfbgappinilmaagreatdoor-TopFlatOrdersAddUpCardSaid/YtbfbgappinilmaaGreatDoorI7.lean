
/- The walk of reader.separated. (Printed by genI7.py.) -/
import Derived.Test.YtbfbgappinilmaaGreatDoorI6
namespace Go.Proofs.YtbfbgappinilmaaGreatDoor
open Go.RowKit Limb Nmb Work
set_option linter.unusedVariables false
set_option linter.unusedSimpArgs false
def sepEnd (m q:Int) (l:List UInt8) (fr:Nat):Option (List UInt8×Nat) :=
 if q≠0/\(l.drop fr).head?=some (qB q) then qAdd [] (fr+1) (quotL (qB q) (l.drop (fr+1)))
 else some ((l.drop fr).takeWhile (fun b=>b !=qB m),fr+((l.drop fr).takeWhile (fun b=>b !=qB m)).length)
noncomputable def sepV (m q:Int) (c:Col) (line:ByteArray) (fr:Nat) (p:List UInt8×Nat):ByteArray×Bool :=
 ((valO m c (bs p.1)).1,(valO m c (bs p.1)).2&&decide (mrkS m q c (valO m c (bs p.1)).1=line.extract fr p.2))
noncomputable def sepO (m q:Int) (c:Col) (line:ByteArray) (i:Nat):ByteArray×Bool :=
 if (line.data.toList.drop i).head? ≠ some (qB m) then (⟨#[]⟩,false)
 else ((sepEnd m q line.data.toList (i+1)).map (sepV m q c line (i+1))).getD (⟨#[]⟩,false)
def sepI (m q:Int) (line:ByteArray) (i:Nat):Nat:=((sepEnd m q line.data.toList (i+1)).map (·.2)).getD 0
theorem quot_len {q:UInt8} : ∀ (k:Nat) (l:List UInt8),l.length<=k->∀ p,quotL q l=some p->p.1.length<=p.2/\p.2<=l.length:=by
 intro k
 induction k with
 | zero=>intro l hl p h;rw [List.length_eq_zero_iff.1 (Nat.le_zero.1 hl)] at h;cases h
 | succ k ih=>
  intro l hl p h
  match l,hl,h with
  | [],_,h=>cases h
  | [b],_,h=>
   unfold quotL at h
   split at h
   ·cases h;exact ⟨by simp,by simp⟩
   ·cases h
  | b :: c :: l,hl,h=>
   simp only [List.length_cons] at hl ⊢
   rw [quotL] at h
   split at h
   ·split at h
    ·cases hq:quotL q l with
     | none=>rw [hq] at h;cases h
     | some r=>
      rw [hq] at h
      cases h
      have:=ih l (by omega) r hq
      simp only [List.length_cons]
      omega
    ·cases h;exact ⟨by simp,by simp⟩
   ·cases hq:quotL q (c :: l) with
    | none=>rw [hq] at h;cases h
    | some r=>
     rw [hq] at h
     cases h
     have:=ih (c :: l) (by simp only [List.length_cons];omega) r hq
     simp only [List.length_cons] at this ⊢
     omega
theorem sep_le {m q:Int} {l:List UInt8} {fr:Nat} (hf:fr<=l.length) {p:List UInt8×Nat} (h:sepEnd m q l fr=some p):fr<=p.2/\p.2<=l.length/\p.1.length<=l.length:=by
 unfold sepEnd at h
 split at h
 ·rename_i hh
  have hfl:fr<l.length:=by
   rcases Nat.lt_or_ge fr l.length with h | h
   ·exact h
   ·rw [List.drop_eq_nil_of_le h] at hh;cases hh.2
  cases hq:quotL (qB q) (l.drop (fr+1)) with
  | none=>rw [hq] at h;cases h
  | some r=>
   rw [hq] at h
   cases h
   have h1:=quot_len _ _ (Nat.le_refl _) r hq
   rw [List.length_drop] at h1
   simp only [List.nil_append]
   omega
 ·cases h
  have h1:=List.Sublist.length_le (List.takeWhile_sublist (fun b=>b !=qB m) (l:=l.drop fr))
  rw [List.length_drop] at h1
  simp only
  omega
theorem valO_mark {m q:Int} {c:Col} {t:ByteArray} (hm:m≠0) (hk:ColK m c) (hl:t.size<=6000) (hok:(valO m c t).2=true):((valO m c t).1≠⟨#[]⟩->valOk c (valO m c t).1.data.toList=true)/\(wrS m c (valO m c t).1).size<=10000:=by
 unfold valO at hok ⊢
 by_cases h0:t=⟨#[]⟩
 ·rw [if_pos h0]
  refine ⟨fun h=>absurd rfl h,?_⟩
  unfold wrS
  rw [if_pos rfl]
  decide
 rw [if_neg h0] at hok ⊢
 rw [if_neg (fun h=>hm h.2)] at hok ⊢
 by_cases h3:c.kind=3
 ·rw [if_pos h3] at hok ⊢
  by_cases hz:rdF c.form 1 t.data.toList=0
  case neg=>rw [if_pos hz] at hok;cases hok
  rw [if_neg (fun h=>h hz)] at hok ⊢
  simp only at hok ⊢
  generalize dayS 1 (rdN c.form 1 t.data.toList)=S at hok ⊢
  refine ⟨fun _=>hok,?_⟩
  unfold wrS
  by_cases hS:S=⟨#[]⟩
  ·rw [if_pos hS];decide
  ·rw [if_neg hS,if_neg (fun h=>hm h.2),if_pos h3]
   unfold valOk at hok
   rw [if_neg (by omega),if_pos h3] at hok
   have h1:=dayS_size (hk.form h3) (day_read hok)
   have h2:formW c.form<=100:=by
    unfold formW
    repeat' split
    all_goals decide
   omega
 ·rw [if_neg h3] at hok ⊢
  simp only at hok ⊢
  refine ⟨fun _=>hok,?_⟩
  unfold wrS
  rw [if_neg h0,if_neg (fun h=>hm h.2),if_neg h3]
  omega
set_option maxHeartbeats 4000000 in
set_option maxRecDepth 100000 in
theorem separated_c (m q:Int) (A:Option Addr) (n cp:Nat) (hd tl ct sm:ByteArray) (c:Col) (line:ByteArray) (i g B:Nat) (m0:Int) (w:World) (hm0:m≠0) (hm:0<=m/\m<=255) (hq:q=0∨(0<=q/\q<128)) (hl:line.size<=6000) (hi:i<=line.size) (hk:ColK m c)
  (hg:w.heap[g]?=some (.cells #[.int .u8 m,.int .u8 q,.slice A n cp,.string hd,.string tl,.string ct,.string sm,.string line,.int .i64 (i:Int)] 145 (0,0))) (hB:B<=g) (hT:∀ w',Below B w w'->Tab w') (hM:∀ w',Below B w w'->w'.cell? ⟨1,0,none⟩=some (.int .i64 m0)) :
  Calls Tryz.prog 90 #[.pointer (some ⟨g,0,none⟩),colG c] w (RetRd m q A n cp hd tl ct sm line g (sepO m q c line i) (sepI m q line i) w):=by
 have HVO:=Lib.hid (fun t hs w ht=>valueof_c ⟨m,q,[],hd,tl,ct,sm⟩ A n cp c t w hs hk ht)
 have HVM:=Lib.hid (fun (t:ByteArray) hs h=>valO_mark (q:=q) (c:=c) (t:=t) hm0 hk hs h)
 have HMK:=Lib.hid (fun s w hs hv hw ht hM=>mark6w_c ⟨m,q,[],hd,tl,ct,sm⟩ A n cp c s m0 w hs hv hk hm hq hw ht hM)
 unfold RetVO at HVO
 have HVZ:=Lib.hid (fun (t:ByteArray) hs h=>valO_size (m:=m) (c:=c) (t:=t) hs h)
 obtain ⟨R,hR⟩:∃ x,sepO m q c line i=x:=⟨_,rfl⟩
 obtain ⟨I,hI⟩:∃ x,sepI m q line i=x:=⟨_,rfl⟩
 have HR:=Lib.hid hR;have HI:=Lib.hid hI
 rw [hR,hI]
 unfold sepO at HR
 unfold sepI at HI
 clear hR hI
 obtain ⟨nm,kd,wd,pl,fm,rt,fl,nd⟩:=c
 unfold colG at HVO HMK ⊢
 simp only at HVO HMK ⊢
 unfold RetRd
 have HTB:=Lib.hid hT;have HMB:=Lib.hid hM
 have HG1:=Lib.hid (heap_old hg (.cells #[.string nm,.int .i64 kd,.int .i64 wd,.int .i64 pl,.int .i64 fm,.bool rt,.int .u8 fl,.bool nd] 91))
 have HC1:=Lib.hid (heap_new w (.cells #[.string nm,.int .i64 kd,.int .i64 wd,.int .i64 pl,.int .i64 fm,.bool rt,.int .u8 fl,.bool nd] 91) rfl)
 have HB1:Hid (Below w.heap.size w (w.alloc (.cells #[.string nm,.int .i64 kd,.int .i64 wd,.int .i64 pl,.int .i64 fm,.bool rt,.int .u8 fl,.bool nd] 91))):=Lib.hid (by go_grown)
 have HGL:=Lib.hid (And.intro (lt_heap hg) hB)
 have e1:IntKind.i64.wrap ((i:Int)+1)=(i:Int)+1:=IntWalk.i64_in _ (by omega)
 have HL:=Lib.hid hl;have HMZ:=Lib.hid (And.intro hm0 (And.intro hm hq))
 clear hk hT hM hB hg hm0 hm hq
 go_enter Tryz.func90,Tryz.ntmps90
 go_upto_region 1 with fail
 generalize w.alloc (.cells #[.string nm,.int .i64 kd,.int .i64 wd,.int .i64 pl,.int .i64 fm,.bool rt,.int .u8 fl,.bool nd] 91)=w1 at HG1 HC1 HB1 ⊢
 obtain ⟨⟨⟨g0,g1,g2,g3,g4,g5,g6,g7,g8⟩,z0,z1,z2,z3,z4,z5,z6,z7,z8⟩,gz⟩:=obox9 HG1.out
 obtain ⟨⟨x0,x1,x2,x3,x4,x5,x6,x7⟩,x8⟩:=obox8 HC1.out
 rcases Nat.lt_or_ge i line.size with hin | hin
 case inr=>
  have HE:=Lib.hid (show (⟨#[]⟩,false)=R by rw [<- HR.out,if_pos];rw [List.drop_eq_nil_of_le (by simpa using hin)];simp)
  have k1:((i:Int)==(line.size:Int))=true:=by simp only [beq_iff_eq];omega
  go_quiet (fail)
  go_wp2
  go_ret2
  rw [<- HE.out]
  exact ⟨rfl,grown_below (below_drewN HB1.out _),fun h=>by cases h⟩
 have k1:((i:Int)==(line.size:Int))=false:=by simp only [beq_eq_false_iff_ne];omega
 obtain ⟨b,hb⟩:∃ x,line[i]=x:=⟨_,rfl⟩
 have HDI:=Lib.hid (show line.data.toList.drop i=b :: line.data.toList.drop (i+1) by rw [drop_at line hin,hb])
 rw [HDI.out] at HR
 by_cases hbm:b=qB m
 case neg=>
  have HE:=Lib.hid (show (⟨#[]⟩,false)=R by rw [<- HR.out,if_pos];simpa using hbm)
  have k2:((b.toNat:Int) !=m)=true:=by
   simp only [bne_iff_ne]
   intro e
   apply hbm
   unfold qB
   rw [<- e]
   simp
  clear hbm
  go_quiet (fail)
  go_wp2
  go_ret2
  rw [<- HE.out]
  exact ⟨rfl,grown_below (below_drewN HB1.out _),fun h=>by cases h⟩
 have k2:((b.toNat:Int) !=m)=false:=by
  have h1:=HMZ.out.2.1
  subst hbm
  unfold qB
  simp
  omega
 have HR2:=Lib.hid ((if_neg (fun h=>h (by rw [hbm];rfl))).symm.trans HR.out)
 clear hbm
 go_quiet (fail)
 have HG2:=Lib.hid (show (w1.drewN nq).heap[g]?=_ from HG1.out);have HC2:=Lib.hid (show (w1.drewN nq).heap[w.heap.size]?=_ from HC1.out)
 have HB2:=Lib.hid (below_drewN HB1.out nq)
 clear g0 g1 g2 g3 g4 g5 g6 g7 g8 z0 z1 z2 z3 z4 z5 z6 z7 z8 gz x0 x1 x2 x3 x4 x5 x6 x7 x8
 generalize w1.drewN nq=w2 at HG2 HC2 HB2 ⊢
 obtain ⟨⟨⟨g0,g1,g2,g3,g4,g5,g6,g7,g8⟩,z0,z1,z2,z3,z4,z5,z6,z7,z8⟩,gz⟩:=obox9 HG2.out
 obtain ⟨⟨x0,x1,x2,x3,x4,x5,x6,x7⟩,x8⟩:=obox8 HC2.out
 go_wp2_with fail
 have hfl:i+1<=line.size:=hin
 obtain ⟨T,hT⟩:∃ x,decide (q≠0/\(line.data.toList.drop (i+1)).head?=some (qB q))=x:=⟨_,rfl⟩
 have HTT:=Lib.hid hT
 have f0:(0:Int)<=(i:Int)+1:=by omega
 have f1:((i:Int)+1).toNat=i+1:=by omega
 clear hT
 go_cut [73] (fun v wx=>v=.bool T/\Hid (wx.heap[g]?=some (.cells #[.int .u8 m,.int .u8 q,.slice A n cp,.string hd,.string tl,.string ct,.string sm,.string line,.int .i64 (i:Int)] 145 (0,0)))/\Hid (wx.heap[w.heap.size]?=some (.cells #[.string nm,.int .i64 kd,.int .i64 wd,.int .i64 pl,.int .i64 fm,.bool rt,.int .u8 fl,.bool nd] 91 (0,0)))/\Hid (Below w.heap.size w wx))
 case first=>
  by_cases hq0:q=0
  ·have HE:=Lib.hid (show T=false by rw [<- HTT.out];exact decide_eq_false (fun h=>h.1 hq0))
   have k3:(q !=0)=false:=by simp [hq0]
   clear hq0
   go_quiet (fail)
   go_wp2_with fail
   go_meet
   exact ⟨by rw [HE.out],HG2,HC2,Lib.hid (below_drewN HB2.out _)⟩
  have k3:(q !=0)=true:=by simpa using hq0
  rcases Nat.lt_or_ge (i+1) line.size with h1 | h1
  case inr=>
   have HE:=Lib.hid (show T=false by rw [<- HTT.out];refine decide_eq_false (fun h=>?_);have h2:=h.2;rw [List.drop_eq_nil_of_le (by simpa using h1)] at h2;cases h2)
   have k4:decide ((i:Int)+1<(line.size:Int))=false:=decide_eq_false (by omega)
   go_quiet (fail)
   go_wp2_with fail
   go_meet
   exact ⟨by rw [HE.out],HG2,HC2,Lib.hid (below_drewN HB2.out _)⟩
  have k4:decide ((i:Int)+1<(line.size:Int))=true:=decide_eq_true (by omega)
  obtain ⟨b2,hb2⟩:∃ x,line[i+1]=x:=⟨_,rfl⟩
  have HDF:=Lib.hid (show line.data.toList.drop (i+1)=b2 :: line.data.toList.drop (i+1+1) by rw [drop_at line h1,hb2])
  by_cases hbq:b2=qB q
  ·have HE:=Lib.hid (show T=true by rw [<- HTT.out,HDF.out];exact decide_eq_true ⟨hq0,by rw [hbq];rfl⟩)
   have k5:((b2.toNat:Int)==q)=true:=by
    have h1:=HMZ.out.2.2
    subst hbq
    unfold qB
    simp
    omega
   clear hbq hq0
   go_quiet (fail)
   go_wp2_with fail
   go_meet
   exact ⟨by rw [HE.out],HG2,HC2,Lib.hid (below_drewN HB2.out _)⟩
  ·have HE:=Lib.hid (show T=false by rw [<- HTT.out,HDF.out];refine decide_eq_false (fun h=>hbq ?_);simpa using h.2)
   have k5:((b2.toNat:Int)==q)=false:=by
    simp only [beq_eq_false_iff_ne]
    intro e
    apply hbq
    unfold qB
    rw [<- e]
    simp
   clear hbq hq0
   go_quiet (fail)
   go_wp2_with fail
   go_meet
   exact ⟨by rw [HE.out],HG2,HC2,Lib.hid (below_drewN HB2.out _)⟩
 case rest=>
  obtain ⟨rfl,HG3,HC3,HB3⟩:=hcut
  go_upto_if 73 with fail
  go_cut [7,8] (fun v7 v8 wx=>∃ (t:List UInt8) (E:Nat),v7=.string (bs t)/\v8=.int .i64 (E:Int)/\Hid (sepEnd m q line.data.toList (i+1)=some (t,E))/\Hid (wx.heap[g]?=some (.cells #[.int .u8 m,.int .u8 q,.slice A n cp,.string hd,.string tl,.string ct,.string sm,.string line,.int .i64 (i:Int)] 145 (0,0)))/\Hid (wx.heap[w.heap.size]?=some (.cells #[.string nm,.int .i64 kd,.int .i64 wd,.int .i64 pl,.int .i64 fm,.bool rt,.int .u8 fl,.bool nd] 91 (0,0)))/\Hid (Below w.heap.size w wx))
  case first=>
   obtain ⟨⟨⟨g0,g1,g2,g3,g4,g5,g6,g7,g8⟩,z0,z1,z2,z3,z4,z5,z6,z7,z8⟩,gz⟩:=obox9 HG3.out
   obtain ⟨⟨x0,x1,x2,x3,x4,x5,x6,x7⟩,x8⟩:=obox8 HC3.out
   cases T with
   | true=>
    obtain ⟨hq0,hqh⟩:=of_decide_eq_true HTT.out
    have hqe:((qB q).toNat:Int)=q:=by
     have h1:=HMZ.out.2.2
     unfold qB
     simp
     omega
    have hlt:i+1<line.size:=by
     rcases Nat.lt_or_ge (i+1) line.size with h | h
     ·exact h
     ·rw [List.drop_eq_nil_of_le (by simpa using h)] at hqh;cases hqh
    have HQC:=Lib.hid (by
     have h:=quoted_c m (qB q) A n cp hd tl ct sm line i (i+1) g wc hl hlt (by rw [hqe];exact HG3.out)
     rw [show ((i+1:Nat):Int)=(i:Int)+1 from by omega] at h
     exact h)
    unfold RetQ at HQC
    have HSE:=Lib.hid (show sepEnd m q line.data.toList (i+1)=qAdd [] (i+1+1) (quotL (qB q) (line.data.toList.drop (i+1+1))) from if_pos ⟨hq0,hqh⟩)
    obtain ⟨r,hr⟩:∃ x,qAdd [] (i+1+1) (quotL (qB q) (line.data.toList.drop (i+1+1)))=x:=⟨_,rfl⟩
    rw [hr] at HQC HSE
    clear hr hqe hqh hq0
    go_wp2_with fail
    refine HQC.out.mono ?_
    rintro _ w4 ⟨rfl,hb4⟩
    have HG4:=Lib.hid (heap_below HG3.out hb4);have HC4:=Lib.hid (heap_below HC3.out hb4)
    have HB4:=Lib.hid (below_then hb4 HB3.out HB3.out.size)
    clear g0 g1 g2 g3 g4 g5 g6 g7 g8 z0 z1 z2 z3 z4 z5 z6 z7 z8 gz x0 x1 x2 x3 x4 x5 x6 x7 x8 hb4
    cases r with
    | none=>
     have HE:=Lib.hid (show (⟨#[]⟩,false)=R by rw [<- HR2.out,HSE.out];rfl)
     simp only [Option.map_none,Option.getD_none,Option.isSome_none]
     go_wp2
     go_ret2
     rw [<- HE.out]
     exact ⟨rfl,grown_below HB4.out,fun h=>by cases h⟩
    | some r=>
     simp only [Option.map_some,Option.getD_some,Option.isSome_some]
     go_wp2_with fail
     go_meet
     exact ⟨r.1,r.2,rfl,rfl,HSE,HG4,HC4,HB4⟩
   | false=>
    have HSE:=Lib.hid (show sepEnd m q line.data.toList (i+1)=some ((line.data.toList.drop (i+1)).takeWhile (fun b=>b !=qB m),i+1+((line.data.toList.drop (i+1)).takeWhile (fun b=>b !=qB m)).length) from if_neg (of_decide_eq_false HTT.out))
    clear g0 g1 g2 g3 g4 g5 g6 g7 g8 z0 z1 z2 z3 z4 z5 z6 z7 z8 gz x0 x1 x2 x3 x4 x5 x6 x7 x8
    go_wp2_with fail
    go_loopw [8] (fun y wx=>∃ j:Nat,y=.int .i64 (j:Int)/\i+1<=j/\j<=line.size/\Hid ((line.data.toList.drop (i+1)).takeWhile (fun b=>b !=qB m)=(line.data.toList.drop (i+1)).take (j-(i+1))++(line.data.toList.drop j).takeWhile (fun b=>b !=qB m))/\Hid (wx.heap[g]?=some (.cells #[.int .u8 m,.int .u8 q,.slice A n cp,.string hd,.string tl,.string ct,.string sm,.string line,.int .i64 (i:Int)] 145 (0,0)))/\Hid (wx.heap[w.heap.size]?=some (.cells #[.string nm,.int .i64 kd,.int .i64 wd,.int .i64 pl,.int .i64 fm,.bool rt,.int .u8 fl,.bool nd] 91 (0,0)))/\Hid (Below w.heap.size w wx)) (fun y _=>line.size-(intOf y).toNat)
    case atStart=>exact ⟨i+1,by go_num,Nat.le_refl _,hfl,Lib.hid (by simp),HG3,HC3,HB3⟩
    case round=>
     obtain ⟨j,rfl,hj1,hj2,HTK,HG4,HC4,HB4⟩:=hrel
     obtain ⟨⟨⟨g0,g1,g2,g3,g4,g5,g6,g7,g8⟩,z0,z1,z2,z3,z4,z5,z6,z7,z8⟩,gz⟩:=obox9 HG4.out
     obtain ⟨⟨x0,x1,x2,x3,x4,x5,x6,x7⟩,x8⟩:=obox8 HC4.out
     rcases Nat.lt_or_ge j line.size with hjn | hjn
     case inr=>
      have hje:line.size=j:=by omega
      have HJE:=Lib.hid hje
      have k0:¬ j<line.size:=by omega
      have k01:decide (j<line.size)=false:=decide_eq_false k0
      clear hje hjn
      have HSTOP:=Lib.hid (show (line.data.toList.drop j).takeWhile (fun b=>b !=qB m)=[] by rw [List.drop_eq_nil_of_le (by have h3:=data_len6 line;have h4:=HJE.out;omega)];rfl)
      have k4:decide ((j:Int)<(line.size:Int))=false:=decide_eq_false (by omega)
      have HE:=Lib.hid (show sepEnd m q line.data.toList (i+1)=some ((line.extract (i+1) j).data.toList,j) by
       have h1:=HTK.out
       rw [HSTOP.out,List.append_nil] at h1
       rw [HSE.out,h1,Lib.extract_data]
       congr 1
       have h2:((line.data.toList.drop (i+1)).take (j-(i+1))).length=j-(i+1):=by
        rw [List.length_take,List.length_drop]
        have h3:line.data.toList.length=line.size:=data_len6 line
        omega
       rw [h2]
       congr 1
       omega)
      have i1:(i:Int)+1<=(j:Int):=by omega
      have i2:(j:Int)<=(line.size:Int):=by omega
      have i3:(0:Int)<=(j:Int):=by omega
      go_wp2_with fail
      go_quiet (fail)
      have HGa:=Lib.hid (show (wr.drewN nq).heap[g]?=_ from HG4.out);have HCa:=Lib.hid (show (wr.drewN nq).heap[w.heap.size]?=_ from HC4.out)
      have HBa:=Lib.hid (below_drewN HB4.out nq)
      clear g0 g1 g2 g3 g4 g5 g6 g7 g8 z0 z1 z2 z3 z4 z5 z6 z7 z8 gz x0 x1 x2 x3 x4 x5 x6 x7 x8
      generalize wr.drewN nq=wa at HGa HCa HBa ⊢
      obtain ⟨⟨⟨g0,g1,g2,g3,g4,g5,g6,g7,g8⟩,z0,z1,z2,z3,z4,z5,z6,z7,z8⟩,gz⟩:=obox9 HGa.out
      obtain ⟨⟨x0,x1,x2,x3,x4,x5,x6,x7⟩,x8⟩:=obox8 HCa.out
      go_wp2_with fail
      go_meet
      exact ⟨(line.extract (i+1) j).data.toList,j,by rw [bs_self],rfl,HE,HGa,HCa,HBa⟩
     have k4:decide ((j:Int)<(line.size:Int))=true:=decide_eq_true (by omega)
     have j0:(0:Int)<=(j:Int):=by omega
     obtain ⟨b2,hb2⟩:∃ x,line[j]=x:=⟨_,rfl⟩
     have HDF:=Lib.hid (show line.data.toList.drop j=b2 :: line.data.toList.drop (j+1) by rw [drop_at line hjn,hb2])
     by_cases hbm:b2=qB m
     ·have HSTOP:=Lib.hid (show (line.data.toList.drop j).takeWhile (fun b=>b !=qB m)=[] by rw [HDF.out,List.takeWhile_cons,hbm];simp)
      have k5:((b2.toNat:Int) !=m)=false:=by
       have h1:=HMZ.out.2.1
       subst hbm
       unfold qB
       simp
       omega
      clear hbm
      have HE:=Lib.hid (show sepEnd m q line.data.toList (i+1)=some ((line.extract (i+1) j).data.toList,j) by
       have h1:=HTK.out
       rw [HSTOP.out,List.append_nil] at h1
       rw [HSE.out,h1,Lib.extract_data]
       congr 1
       have h2:((line.data.toList.drop (i+1)).take (j-(i+1))).length=j-(i+1):=by
        rw [List.length_take,List.length_drop]
        have h3:line.data.toList.length=line.size:=data_len6 line
        omega
       rw [h2]
       congr 1
       omega)
      have i1:(i:Int)+1<=(j:Int):=by omega
      have i2:(j:Int)<=(line.size:Int):=by omega
      have i3:(0:Int)<=(j:Int):=by omega
      go_wp2_with fail
      go_quiet (fail)
      have HGa:=Lib.hid (show (wr.drewN nq).heap[g]?=_ from HG4.out);have HCa:=Lib.hid (show (wr.drewN nq).heap[w.heap.size]?=_ from HC4.out)
      have HBa:=Lib.hid (below_drewN HB4.out nq)
      clear g0 g1 g2 g3 g4 g5 g6 g7 g8 z0 z1 z2 z3 z4 z5 z6 z7 z8 gz x0 x1 x2 x3 x4 x5 x6 x7 x8
      generalize wr.drewN nq=wa at HGa HCa HBa ⊢
      obtain ⟨⟨⟨g0,g1,g2,g3,g4,g5,g6,g7,g8⟩,z0,z1,z2,z3,z4,z5,z6,z7,z8⟩,gz⟩:=obox9 HGa.out
      obtain ⟨⟨x0,x1,x2,x3,x4,x5,x6,x7⟩,x8⟩:=obox8 HCa.out
      go_wp2_with fail
      go_meet
      exact ⟨(line.extract (i+1) j).data.toList,j,by rw [bs_self],rfl,HE,HGa,HCa,HBa⟩
     ·have k5:((b2.toNat:Int) !=m)=true:=by
       simp only [bne_iff_ne]
       intro e
       apply hbm
       unfold qB
       rw [<- e]
       simp
      have HTK2:=Lib.hid (show (line.data.toList.drop (i+1)).takeWhile (fun b=>b !=qB m)=(line.data.toList.drop (i+1)).take (j+1-(i+1))++(line.data.toList.drop (j+1)).takeWhile (fun b=>b !=qB m) by
       have h3:line.data.toList.length=line.size:=data_len6 line
       rw [HTK.out,HDF.out,List.takeWhile_cons,if_pos (by simpa using hbm),show j+1-(i+1)=j-(i+1)+1 by omega,List.take_add_one,List.getElem?_drop,show i+1+(j-(i+1))=j by omega,List.getElem?_eq_getElem (by omega),data_get line j hjn,hb2]
       simp)
      clear hbm
      have e9:IntKind.i64.wrap ((j:Int)+1)=(j:Int)+1:=IntWalk.i64_in _ (by omega)
      go_wp2_with fail
      go_quiet (fail)
      have HGa:=Lib.hid (show (wr.drewN nq).heap[g]?=_ from HG4.out);have HCa:=Lib.hid (show (wr.drewN nq).heap[w.heap.size]?=_ from HC4.out)
      have HBa:=Lib.hid (below_drewN HB4.out nq)
      clear g0 g1 g2 g3 g4 g5 g6 g7 g8 z0 z1 z2 z3 z4 z5 z6 z7 z8 gz x0 x1 x2 x3 x4 x5 x6 x7 x8
      generalize wr.drewN nq=wa at HGa HCa HBa ⊢
      obtain ⟨⟨⟨g0,g1,g2,g3,g4,g5,g6,g7,g8⟩,z0,z1,z2,z3,z4,z5,z6,z7,z8⟩,gz⟩:=obox9 HGa.out
      obtain ⟨⟨x0,x1,x2,x3,x4,x5,x6,x7⟩,x8⟩:=obox8 HCa.out
      go_wp2_with fail
      go_roundw
      case rel=>exact ⟨j+1,by go_num,by omega,by omega,HTK2,HGa,HCa,HBa⟩
      case measure=>simp [intOf];omega
  case rest=>
   rename World=>w4
   obtain ⟨t,E,rfl,rfl,HSE,HG4,HC4,HB4⟩:=hcut
   have hle:=sep_le (by rw [data_len6];exact hfl) HSE.out
   rw [data_len6] at hle
   simp only at hle
   obtain ⟨he1,he2,he3⟩:=hle
   have HII:=Lib.hid (show E=I by rw [<- HI.out,HSE.out];rfl)
   rw [HSE.out] at HR2
   have hts:(bs t).size<=6000:=by rw [bs_size];omega
   have HVX:=Lib.hid (fun w ht=>HVO.out (bs t) (by omega) w ht)
   have HVY:=Lib.hid (fun h=>HVM.out (bs t) hts h)
   have HVS:=Lib.hid (fun h=>HVZ.out (bs t) (by omega) h)
   have HR3:=Lib.hid (show ((valO m ⟨nm,kd,wd,pl,fm,rt,fl,nd⟩ (bs t)).1,(valO m ⟨nm,kd,wd,pl,fm,rt,fl,nd⟩ (bs t)).2&&decide (mrkS m q ⟨nm,kd,wd,pl,fm,rt,fl,nd⟩ (valO m ⟨nm,kd,wd,pl,fm,rt,fl,nd⟩ (bs t)).1=line.extract (i+1) E))=R from HR2.out)
   obtain ⟨⟨v,ok⟩,hV⟩:∃ x,valO m ⟨nm,kd,wd,pl,fm,rt,fl,nd⟩ (bs t)=x:=⟨_,rfl⟩
   rw [hV] at HVX HVY HVS HR3
   simp only at HVX HVY HVS HR3
   clear HVO HVM HVZ HR2 hV HTT HI hts he3
   have T4:Below w4.heap.size w4 w4:=Below.refl _ _
   have HBW:=Lib.hid (Nat.le_of_lt (Nat.lt_of_le_of_lt HGL.out.2 HGL.out.1))
   have HS4:Hid (∀ wx,Below w4.heap.size w4 wx->(fun w':World=>w'.cell? ⟨g,0,none⟩=some (.int .u8 m)/\w'.cell? ⟨g,1,none⟩=some (.int .u8 q)/\w'.cell? ⟨g,2,none⟩=some (.slice A n cp)/\w'.cell? ⟨g,3,none⟩=some (.string hd)/\w'.cell? ⟨g,4,none⟩=some (.string tl)/\w'.cell? ⟨g,5,none⟩=some (.string ct)/\w'.cell? ⟨g,6,none⟩=some (.string sm)/\w'.cell? ⟨g,7,none⟩=some (.string line)/\w'.cell? ⟨w.heap.size,0,none⟩=some (.string nm)/\w'.cell? ⟨w.heap.size,1,none⟩=some (.int .i64 kd)/\w'.cell? ⟨w.heap.size,2,none⟩=some (.int .i64 wd)/\w'.cell? ⟨w.heap.size,3,none⟩=some (.int .i64 pl)/\w'.cell? ⟨w.heap.size,4,none⟩=some (.int .i64 fm)/\w'.cell? ⟨w.heap.size,5,none⟩=some (.bool rt)/\w'.cell? ⟨w.heap.size,6,none⟩=some (.int .u8 fl)/\w'.cell? ⟨w.heap.size,7,none⟩=some (.bool nd)) wx):=Lib.hid (fun wx h=>by
    obtain ⟨⟨⟨g0,g1,g2,g3,g4,g5,g6,g7,g8⟩,-⟩,-⟩:=obox9 (heap_below HG4.out h)
    obtain ⟨⟨x0,x1,x2,x3,x4,x5,x6,x7⟩,x8⟩:=obox8 (heap_below HC4.out h)
    exact ⟨g0,g1,g2,g3,g4,g5,g6,g7,x0,x1,x2,x3,x4,x5,x6,x7⟩)
   have HT4:=Lib.hid (HTB.out w4 (HB4.out.mono HBW.out))
   have HM4:=Lib.hid (fun w' h=>HMB.out w' h)
   clear hfl f0 f1 e1
   go_upto_region 14 with fail
   go_region_held3 (fun w':World=>w'.cell? ⟨g,0,none⟩=some (.int .u8 m)/\w'.cell? ⟨g,1,none⟩=some (.int .u8 q)/\w'.cell? ⟨g,2,none⟩=some (.slice A n cp)/\w'.cell? ⟨g,3,none⟩=some (.string hd)/\w'.cell? ⟨g,4,none⟩=some (.string tl)/\w'.cell? ⟨g,5,none⟩=some (.string ct)/\w'.cell? ⟨g,6,none⟩=some (.string sm)/\w'.cell? ⟨g,7,none⟩=some (.string line)/\w'.cell? ⟨w.heap.size,0,none⟩=some (.string nm)/\w'.cell? ⟨w.heap.size,1,none⟩=some (.int .i64 kd)/\w'.cell? ⟨w.heap.size,2,none⟩=some (.int .i64 wd)/\w'.cell? ⟨w.heap.size,3,none⟩=some (.int .i64 pl)/\w'.cell? ⟨w.heap.size,4,none⟩=some (.int .i64 fm)/\w'.cell? ⟨w.heap.size,5,none⟩=some (.bool rt)/\w'.cell? ⟨w.heap.size,6,none⟩=some (.int .u8 fl)/\w'.cell? ⟨w.heap.size,7,none⟩=some (.bool nd))
    (first | (with_reducible exact HS4.out _ T5) | (refine HS4.out _ ?_;go_grown))
    (first | (go_at_call 131;refine (HVX.out _ (by first | exact HT4.out | exact HT4.out.below (by go_grown))).mono ?_;rintro e w5 ⟨rfl,hb5⟩;(have T5:Below w4.heap.size w4 w5:=below_then hb5 (by go_grown) (by first | exact Nat.le_refl _ | (simp only [World.size_alloc,World.size_drew];omega)))))
   have HG5:=Lib.hid (heap_below HG4.out T5);have HC5:=Lib.hid (heap_below HC4.out T5)
   have HB5:=Lib.hid (below_then T5 HB4.out HB4.out.size)
   clear T4 T5 HG4 HC4 HB4 HS4 HT4
   obtain ⟨⟨⟨g0,g1,g2,g3,g4,g5,g6,g7,g8⟩,z0,z1,z2,z3,z4,z5,z6,z7,z8⟩,gz⟩:=obox9 HG5.out
   obtain ⟨⟨x0,x1,x2,x3,x4,x5,x6,x7⟩,x8⟩:=obox8 HC5.out
   go_upto_region 16 with fail
   have HG6:Hid ((w5.setCell ⟨g,8,none⟩ (.int .i64 (E:Int))).heap[g]?=some (.cells #[.int .u8 m,.int .u8 q,.slice A n cp,.string hd,.string tl,.string ct,.string sm,.string line,.int .i64 (E:Int)] 145 (0,0))):=Lib.hid (heap_set HG5.out 8 _)
   have HC6:Hid ((w5.setCell ⟨g,8,none⟩ (.int .i64 (E:Int))).heap[w.heap.size]?=_):=Lib.hid (heap_far HC5.out (p:=⟨g,8,none⟩) (by have:=HGL.out.1;show w.heap.size≠g;omega) _)
   have HW6:Hid (w.grownBy (w5.setCell ⟨g,8,none⟩ (.int .i64 (E:Int))) (some g)):=Lib.hid (grownR_set HB5.out)
   clear g0 g1 g2 g3 g4 g5 g6 g7 g8 z0 z1 z2 z3 z4 z5 z6 z7 z8 gz x0 x1 x2 x3 x4 x5 x6 x7 x8
   generalize w5.setCell ⟨g,8,none⟩ (.int .i64 (E:Int))=w6 at HG6 HC6 HW6 ⊢
   have HB6:=Lib.hid (belowR_grown HW6.out HGL.out.2 HBW.out)
   cases ok with
   | false=>
    have HE:=Lib.hid (show (v,false)=R from HR3.out)
    obtain ⟨⟨⟨g0,g1,g2,g3,g4,g5,g6,g7,g8⟩,z0,z1,z2,z3,z4,z5,z6,z7,z8⟩,gz⟩:=obox9 HG6.out
    obtain ⟨⟨x0,x1,x2,x3,x4,x5,x6,x7⟩,x8⟩:=obox8 HC6.out
    go_quiet (fail)
    go_wp2
    go_ret2
    rw [<- HE.out]
    exact ⟨rfl,grown_then HW6.out (below_drewN (Below.refl _ _) _),fun h=>by cases h⟩
   | true=>
    have HE:=Lib.hid (show (v,decide (mrkS m q ⟨nm,kd,wd,pl,fm,rt,fl,nd⟩ v=line.extract (i+1) E))=R from HR3.out)
    obtain ⟨Z,hZ⟩:∃ x,mrkS m q ⟨nm,kd,wd,pl,fm,rt,fl,nd⟩ v=x:=⟨_,rfl⟩
    have HMX:=Lib.hid (fun w ht hM=>HMK.out v w (HVS.out rfl) (HVY.out rfl).1 (HVY.out rfl).2 ht hM)
    rw [hZ] at HMX HE
    have T6:Below w6.heap.size w6 w6:=Below.refl _ _
    have HS6:Hid (∀ wx,Below w6.heap.size w6 wx->(fun w':World=>w'.cell? ⟨g,0,none⟩=some (.int .u8 m)/\w'.cell? ⟨g,1,none⟩=some (.int .u8 q)/\w'.cell? ⟨g,2,none⟩=some (.slice A n cp)/\w'.cell? ⟨g,3,none⟩=some (.string hd)/\w'.cell? ⟨g,4,none⟩=some (.string tl)/\w'.cell? ⟨g,5,none⟩=some (.string ct)/\w'.cell? ⟨g,6,none⟩=some (.string sm)/\w'.cell? ⟨g,7,none⟩=some (.string line)/\w'.cell? ⟨w.heap.size,0,none⟩=some (.string nm)/\w'.cell? ⟨w.heap.size,1,none⟩=some (.int .i64 kd)/\w'.cell? ⟨w.heap.size,2,none⟩=some (.int .i64 wd)/\w'.cell? ⟨w.heap.size,3,none⟩=some (.int .i64 pl)/\w'.cell? ⟨w.heap.size,4,none⟩=some (.int .i64 fm)/\w'.cell? ⟨w.heap.size,5,none⟩=some (.bool rt)/\w'.cell? ⟨w.heap.size,6,none⟩=some (.int .u8 fl)/\w'.cell? ⟨w.heap.size,7,none⟩=some (.bool nd)) wx):=Lib.hid (fun wx h=>by
     obtain ⟨⟨⟨g0,g1,g2,g3,g4,g5,g6,g7,g8⟩,-⟩,-⟩:=obox9 (heap_below HG6.out h)
     obtain ⟨⟨x0,x1,x2,x3,x4,x5,x6,x7⟩,x8⟩:=obox8 (heap_below HC6.out h)
     exact ⟨g0,g1,g2,g3,g4,g5,g6,g7,x0,x1,x2,x3,x4,x5,x6,x7⟩)
    have HT6:=Lib.hid (HTB.out w6 HB6.out)
    have HM6:=Lib.hid (HMB.out w6 HB6.out)
    have i1:(i:Int)+1<=(E:Int):=by omega
    have i2:(E:Int)<=(line.size:Int):=by omega
    have i3:(0:Int)<=(E:Int):=by omega
    have f0:(0:Int)<=(i:Int)+1:=by omega
    have f1:((i:Int)+1).toNat=i+1:=by omega
    clear hZ he1 he2 HMB HTB HVX HVY HVS HR3 HM4
    go_region_held3 (fun w':World=>w'.cell? ⟨g,0,none⟩=some (.int .u8 m)/\w'.cell? ⟨g,1,none⟩=some (.int .u8 q)/\w'.cell? ⟨g,2,none⟩=some (.slice A n cp)/\w'.cell? ⟨g,3,none⟩=some (.string hd)/\w'.cell? ⟨g,4,none⟩=some (.string tl)/\w'.cell? ⟨g,5,none⟩=some (.string ct)/\w'.cell? ⟨g,6,none⟩=some (.string sm)/\w'.cell? ⟨g,7,none⟩=some (.string line)/\w'.cell? ⟨w.heap.size,0,none⟩=some (.string nm)/\w'.cell? ⟨w.heap.size,1,none⟩=some (.int .i64 kd)/\w'.cell? ⟨w.heap.size,2,none⟩=some (.int .i64 wd)/\w'.cell? ⟨w.heap.size,3,none⟩=some (.int .i64 pl)/\w'.cell? ⟨w.heap.size,4,none⟩=some (.int .i64 fm)/\w'.cell? ⟨w.heap.size,5,none⟩=some (.bool rt)/\w'.cell? ⟨w.heap.size,6,none⟩=some (.int .u8 fl)/\w'.cell? ⟨w.heap.size,7,none⟩=some (.bool nd))
     (first | (with_reducible exact HS6.out _ T7) | (refine HS6.out _ ?_;go_grown))
     (first | (go_at_call 87;refine (HMX.out _ (by first | exact HT6.out | exact HT6.out.below (by go_grown)) (by first | exact HM6.out | skip)).mono ?_;rintro e w7 ⟨rfl,hb7⟩;(have T7:Below w6.heap.size w6 w7:=below_then hb7 (by go_grown) (by first | exact Nat.le_refl _ | (simp only [World.size_alloc,World.size_drew];omega)))))
    go_wp2
    go_ret2
    refine ⟨?_,grown_then HW6.out T7,fun _=>by rw [<- HII.out];exact heap_below HG6.out T7⟩
    rw [<- HE.out]
    show Ending.returned (.tuple #[.string v,.bool (Z.toList==(line.extract (i+1) E).toList)])=_
    rw [bytes_dec]
end Go.Proofs.YtbfbgappinilmaaGreatDoor
