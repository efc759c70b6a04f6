/- The walk of turned. (Printed by genZ9.py.) The walks of checkRows, rowsFault of the program, checkRows, askRows of the reference. (Printed by genY1.py.) -/
import Derived.Test.YtbfbgappinilmaaGreatDoorZ8
import Derived.Test.YtbfbgappinilmaaGreatDoorYP
-- merged: Z9 Y1
namespace Go.Proofs.YtbfbgappinilmaaGreatDoor
open Go.RowKit Limb Nmb Work
set_option linter.unusedVariables false
set_option linter.unusedSimpArgs false
theorem own_ty {w w':World} {base:Nat} {e:TypeId} {size n g:Nat} {v:Value} {xs:List Value} {cs:Array Value} {U:TypeId} (h:w.ownsRow base e size v n xs) (hg:w.grownBy w' v.ownBlock) (hh:w.heap[g]?=some (.cells cs U (0,0))) (hT:U≠e):w'.heap[g]?=some (.cells cs U (0,0)):=grown_type h hg hh hT
theorem turnV_take {k o:RKd} {vs:List ByteArray} {j:Nat} (h:j<o.fields.length):(o.fields.take (j+1)).map (turnW k vs)=(o.fields.take j).map (turnW k vs)++[turnW k vs (cA o.fields j)]:=by
 rw [List.take_succ_eq_append_getElem h,List.map_append,cA_get h]
 rfl
def RetTurn (k o:RKd) (r:RowP) (w:World) (e:Ending) (w':World):Prop:=∃ X c,e=.returned (.tuple #[.agg #[.string r.tag,.slice X (turnV k o r.vals).length c],.int .i64 (lostN k o r.vals k.fields.length:Nat)]) /\
 w'.ownsRow w.heap.size 9 1 (.slice X (turnV k o r.vals).length c) (turnV k o r.vals).length (ystrV (turnV k o r.vals))/\Below w.heap.size w w'
theorem lostN_le (k o:RKd) (vs:List ByteArray):∀ j,lostN k o vs j<=j
 | 0=>Nat.le_refl _
 | j+1=>by
  have:=lostN_le k o vs j
  unfold lostN
  split<;>omega
theorem turnW_size {k:RKd} {vs:List ByteArray} (h:∀ s∈vs,s.size<=9223372036854775807) (c:Col):(turnW k vs c).size<=9223372036854775807:=by
 unfold turnW
 split
 ·decide
 ·exact wd_size h _
theorem own_set9 {w:World} {B n g i:Nat} {v:Value} {xs:List Value} {cs:Array Value} {U:TypeId} (h:w.ownsRow B 9 1 v n xs) (hh:w.heap[g]?=some (.cells cs U (0,0))) (hU:U≠9) (u:Value):(w.setCell ⟨g,i,none⟩ u).ownsRow B 9 1 v n xs :=
 own_keepT h fun g' cs' h'=>heap_far h' (p:=⟨g,i,none⟩) (fun e=>hU (by
  have e':g'=g:=e
  subst e'
  rw [hh] at h'
  injection h' with h'
  injection h')) u
set_option maxHeartbeats 8000000 in
set_option maxRecDepth 100000 in
theorem turned_c (k o:RKd) (KA OA:Option Addr) (KC OC:Nat) (r:RowP) (RA:Option Addr) (RC:Nat) (w:World) (hk:Cols w KA k.fields) (ho:Cols w OA o.fields) (hr:RowM w r RA RC) (hlen:r.vals.length=k.fields.length) (hk50:k.fields.length<=50) (ho50:o.fields.length<=50) :
  Calls Tryz.prog 50 #[kindG k KA KC,kindG o OA OC,rowG r RA RC] w (RetTurn k o r w):=by
 obtain ⟨i0,hi⟩:∃ i,Tryz.prog.info? 9=some i:=⟨_,rfl⟩
 have hz0i:i0.zero=some (.string ⟨#[]⟩):=by obtain rfl:=Option.some.inj (hi.symm.trans rfl);rfl
 have hz1i:i0.size=1:=by obtain rfl:=Option.some.inj (hi.symm.trans rfl);rfl
 have hz2i:i0.bytes=16:=by obtain rfl:=Option.some.inj (hi.symm.trans rfl);rfl
 have HI0:=Lib.hid hi;have HZ0:=Lib.hid hz0i;have HZ1:=Lib.hid hz1i;have HZ2:=Lib.hid hz2i
 clear hi hz0i hz1i hz2i
 have HCK:=Lib.hid (fun t wx (h:Below w.heap.size w wx)=>colat_c k KA KC t wx (hk.below h))
 have HCO:=Lib.hid (fun t wx (h:Below w.heap.size w wx)=>colat_c o OA OC t wx (ho.below h))
 have HIK:=Lib.hid (fun t=>ixF_spec (nameIs t) k.fields)
 have HIO:=Lib.hid (fun t=>ixF_lo (nameIs t) o.fields)
 have HK:=Lib.hid hk;have HO:=Lib.hid ho;have HR:=Lib.hid hr
 have HV:=Lib.hid hlen
 have HTV:=Lib.hid (show (turnV k o r.vals).length=o.fields.length by unfold turnV;rw [List.length_map])
 have HTK:=Lib.hid (fun j (h:j<o.fields.length)=>turnV_take (k:=k) (vs:=r.vals) h)
 have HTE:=Lib.hid (show turnV k o r.vals=(o.fields.take o.fields.length).map (turnW k r.vals) by rw [List.take_length];rfl)
 have HLE:=Lib.hid (fun j=>lostN_le k o r.vals j)
 have HLS:=Lib.hid (show ∀ j,lostN k o r.vals (j+1)=lostN k o r.vals j+if lostB o (cA k.fields j) (wd r.vals j)=true then 1 else 0 from fun j=>rfl)
 have HLB:=Lib.hid (show ∀ c s,lostB o c s=(decide (s≠⟨#[]⟩)&&decide (ixF (nameIs c.name) o.fields<0)) from fun c s=>rfl)
 have HTW:=Lib.hid (show ∀ c,turnW k r.vals c=if ixF (nameIs c.name) k.fields<0 then ⟨#[]⟩ else wd r.vals (ixF (nameIs c.name) k.fields).toNat from fun c=>rfl)
 unfold RetTurn
 obtain ⟨TV,hTV⟩:∃ x,turnV k o r.vals=x:=⟨_,rfl⟩
 obtain ⟨LN,hLN⟩:∃ x,lostN k o r.vals=x:=⟨_,rfl⟩
 obtain ⟨LB,hLB⟩:∃ x,lostB o=x:=⟨_,rfl⟩
 obtain ⟨TW,hTW⟩:∃ x,turnW k r.vals=x:=⟨_,rfl⟩
 rw [hTV] at HTV HTE
 rw [hTW] at HTK HTE HTW
 rw [hLN] at HLE HLS
 rw [hLB] at HLS HLB
 rw [hTV,hLN]
 clear hTV hLN hLB hTW hk ho hr hlen
 obtain ⟨kt,kfs,km,ku⟩:=k
 obtain ⟨ot,ofs,om,ou⟩:=o
 obtain ⟨rt,vs⟩:=r
 unfold kindG at HCK HCO ⊢
 unfold rowG
 simp only at HCK HCO HIK HIO HK HO HV HTV HTK HTE HLS HLB HTW hk50 ho50 ⊢
 obtain ⟨nf,hnf⟩:∃ x,kfs.length=x:=⟨_,rfl⟩
 obtain ⟨no,hno⟩:∃ x,ofs.length=x:=⟨_,rfl⟩
 obtain ⟨nv,hnv⟩:∃ x,vs.length=x:=⟨_,rfl⟩
 obtain ⟨nt,hnt⟩:∃ x,TV.length=x:=⟨_,rfl⟩
 have HNF:=Lib.hid hnf;have HNO:=Lib.hid hno;have HNV:=Lib.hid hnv;have HNT:=Lib.hid hnt
 rw [hnf] at HCK HV hk50 ⊢
 rw [hno] at HCO HTV HTE ho50 ⊢
 rw [hnt] at HTV ⊢
 rw [hnv] at HV ⊢
 have HTN:=Lib.hid HTV.out;have HVN:=Lib.hid HV.out
 clear hnf hno hnv hnt
 have h1:=heap_old (heap_old (heap_old (heap_old (heap_new w (.cells #[.string kt,.slice KA nf KC,.int .i64 km,.string ku] 83) rfl) (.cells #[.string ot,.slice OA no OC,.int .i64 om,.string ou] 83)) (.cells #[.string rt,.slice RA nv RC] 39)) (.cells #[.string ⟨#[]⟩,.slice none 0 0] 39)) (.cells #[.string rt,.slice none 0 0] 39)
 have h2:=heap_old (heap_old (heap_old (heap_new (w.alloc (.cells #[.string kt,.slice KA nf KC,.int .i64 km,.string ku] 83)) (.cells #[.string ot,.slice OA no OC,.int .i64 om,.string ou] 83) (g:=w.heap.size+1) (by simp)) (.cells #[.string rt,.slice RA nv RC] 39)) (.cells #[.string ⟨#[]⟩,.slice none 0 0] 39)) (.cells #[.string rt,.slice none 0 0] 39)
 have h3:=heap_old (heap_old (heap_new ((w.alloc (.cells #[.string kt,.slice KA nf KC,.int .i64 km,.string ku] 83)).alloc (.cells #[.string ot,.slice OA no OC,.int .i64 om,.string ou] 83)) (.cells #[.string rt,.slice RA nv RC] 39) (g:=w.heap.size+1+1) (by simp)) (.cells #[.string ⟨#[]⟩,.slice none 0 0] 39)) (.cells #[.string rt,.slice none 0 0] 39)
 have h4:=heap_old (heap_new (((w.alloc (.cells #[.string kt,.slice KA nf KC,.int .i64 km,.string ku] 83)).alloc (.cells #[.string ot,.slice OA no OC,.int .i64 om,.string ou] 83)).alloc (.cells #[.string rt,.slice RA nv RC] 39)) (.cells #[.string ⟨#[]⟩,.slice none 0 0] 39) (g:=w.heap.size+1+1+1) (by simp)) (.cells #[.string rt,.slice none 0 0] 39)
 have h5:=heap_new ((((w.alloc (.cells #[.string kt,.slice KA nf KC,.int .i64 km,.string ku] 83)).alloc (.cells #[.string ot,.slice OA no OC,.int .i64 om,.string ou] 83)).alloc (.cells #[.string rt,.slice RA nv RC] 39)).alloc (.cells #[.string ⟨#[]⟩,.slice none 0 0] 39)) (.cells #[.string rt,.slice none 0 0] 39) (g:=w.heap.size+1+1+1+1) (by simp)
 have hB:Below w.heap.size w (((((w.alloc (.cells #[.string kt,.slice KA nf KC,.int .i64 km,.string ku] 83)).alloc (.cells #[.string ot,.slice OA no OC,.int .i64 om,.string ou] 83)).alloc (.cells #[.string rt,.slice RA nv RC] 39)).alloc (.cells #[.string ⟨#[]⟩,.slice none 0 0] 39)).alloc (.cells #[.string rt,.slice none 0 0] 39)):=by go_grown
 go_enter Tryz.func50,Tryz.ntmps50
 obtain ⟨r0,r1,-,-,-⟩:=box2 (heap_old (heap_new ((w.alloc (.cells #[.string kt,.slice KA nf KC,.int .i64 km,.string ku] 83)).alloc (.cells #[.string ot,.slice OA no OC,.int .i64 om,.string ou] 83)) (.cells #[.string rt,.slice RA nv RC] 39) (g:=w.heap.size+1+1) (by simp)) (.cells #[.string ⟨#[]⟩,.slice none 0 0] 39))
 go_upto_region 2 with fail
 obtain ⟨ob,hob⟩:∃ x,w.heap.size+1+1+1+1=x:=⟨_,rfl⟩
 have HOBE:=Lib.hid hob
 rw [hob] at h5
 try rw [hob]
 generalize ((((w.alloc (.cells #[.string kt,.slice KA nf KC,.int .i64 km,.string ku] 83)).alloc (.cells #[.string ot,.slice OA no OC,.int .i64 om,.string ou] 83)).alloc (.cells #[.string rt,.slice RA nv RC] 39)).alloc (.cells #[.string ⟨#[]⟩,.slice none 0 0] 39)).alloc (.cells #[.string rt,.slice none 0 0] 39)=w5 at h1 h2 h3 h4 h5 hB ⊢
 have HW:=Lib.hid (show ∀ wx,Below ob w5 wx->wx.heap[w.heap.size]?=some (.cells #[.string kt,.slice KA nf KC,.int .i64 km,.string ku] 83 (0,0))/\wx.heap[w.heap.size+1]?=some (.cells #[.string ot,.slice OA no OC,.int .i64 om,.string ou] 83 (0,0))/\wx.heap[w.heap.size+1+1]?=some (.cells #[.string rt,.slice RA nv RC] 39 (0,0))/\wx.heap[w.heap.size+1+1+1]?=some (.cells #[.string ⟨#[]⟩,.slice none 0 0] 39 (0,0))/\Below w.heap.size w wx from fun wx h=>
  ⟨(h.block _ (by omega)).trans h1,(h.block _ (by omega)).trans h2,(h.block _ (by omega)).trans h3,(h.block _ (by omega)).trans h4,hB.trans (h.mono (by omega))⟩)
 have HX0:=Lib.hid h5
 have HB0:Hid (Below ob w5 w5):=Lib.hid (Below.refl _ _)
 obtain ⟨⟨o0,o1,o2,o3⟩,-,-⟩:=obox4 h2
 have hobw:w.heap.size+4=ob:=by rw [<- hob]
 clear h1 h2 h3 h4 h5 hB r0 r1 hob
 go_wp2_with fail
 clear o0 o1 o2 o3
 go_loopw [22] (fun i wr=>∃ (j:Nat) (X:Option Addr) (c:Nat),j<=no/\i=.int .i64 j/\Hid (wr.ownsRow ob 9 1 (.slice X j c) j (ystrV ((ofs.take j).map TW)))/\Hid (wr.heap[ob]?=some (.cells #[.string rt,.slice X j c] 39 (0,0)))/\Hid (Below ob w5 wr)) (fun i _=>no-(intOf i).toNat)
 case atStart=>exact ⟨0,none,0,by omega,rfl,Lib.hid (World.ownsRow_nil _ _ _ _),HX0,HB0⟩
 case round=>
  clear HX0 HB0
  obtain ⟨j,X,c,hj,rfl,HOW,HX,HB⟩:=hrel
  have hzr:ob<wr.heap.size:=lt_heap HX.out
  obtain ⟨q1,q2,q3,q4,qb⟩:=HW.out _ HB.out
  have QB:=Lib.hid qb
  rcases Nat.lt_or_ge j no with hlt | hge
  ·have hjl:j<ofs.length:=by rw [HNO.out];exact hlt
   obtain ⟨cb,co,rfl,hcb,d0,d1,d2,d3,d4,d5,d6,d7⟩:=(HO.out.below QB.out).cells hjl
   have HT:=Lib.hid (HTK.out j (by rw [HNO.out];exact hlt))
   have HTC:=Lib.hid (HTW.out (cA ofs j))
   obtain ⟨C,hC⟩:∃ x,cA ofs j=x:=⟨_,rfl⟩
   rw [hC] at d0 d1 d2 d3 d4 d5 d6 d7 HT HTC
   obtain ⟨cn,ck,cw,cl,cm,cr,ci,ce⟩:=C
   simp only at d0 d1 d2 d3 d4 d5 d6 d7 HTC
   have HIC:=Lib.hid (HIK.out cn)
   have HCB:=Lib.hid (heap_new wr (.cells #[.string cn,.int .i64 ck,.int .i64 cw,.int .i64 cl,.int .i64 cm,.bool cr,.int .u8 ci,.bool ce] 91) rfl)
   have HB6:=Lib.hid (show Below ob w5 (wr.alloc (.cells #[.string cn,.int .i64 ck,.int .i64 cw,.int .i64 cl,.int .i64 cm,.bool cr,.int .u8 ci,.bool ce] 91)) from HB.out.alloc (Nat.le_of_lt hzr) _)
   have HX6:=Lib.hid (heap_old HX.out (.cells #[.string cn,.int .i64 ck,.int .i64 cw,.int .i64 cl,.int .i64 cm,.bool cr,.int .u8 ci,.bool ce] 91))
   have HO6:=Lib.hid (HOW.out.alloc (.cells #[.string cn,.int .i64 ck,.int .i64 cw,.int .i64 cl,.int .i64 cm,.bool cr,.int .u8 ci,.bool ce] 91))
   clear hC hjl q1 q2 q3 q4 qb
   go_upto_region 6 with fail
   obtain ⟨cb2,hcb2⟩:∃ x,wr.heap.size=x:=⟨_,rfl⟩
   rw [hcb2] at HCB
   try rw [hcb2]
   generalize wr.alloc (.cells #[.string cn,.int .i64 ck,.int .i64 cw,.int .i64 cl,.int .i64 cm,.bool cr,.int .u8 ci,.bool ce] 91)=w6 at HCB HB6 HX6 HO6 ⊢
   clear hcb2 d0 d1 d2 d3 d4 d5 d6 d7 hcb HB HX HOW QB hzr
   obtain ⟨q1,-,q3,-,qb⟩:=HW.out _ HB6.out
   obtain ⟨⟨k0,k1,k2,k3⟩,-,-⟩:=obox4 q1
   obtain ⟨⟨x0,x1,x2,x3,x4,x5,x6,x7⟩,-⟩:=obox8 HCB.out
   go_wp2_with fail
   refine (HCK.out cn _ qb).mono ?_
   rintro _ w7 ⟨rfl,hb7⟩
   have hz6:=lt_heap HX6.out
   have HB7:=Lib.hid (below_then hb7 HB6.out (Nat.le_of_lt hz6))
   have HX7:=Lib.hid (heap_below HX6.out hb7)
   have HO7:=Lib.hid (own_below HO6.out hb7)
   have hz7:ob<=w7.heap.size:=Nat.le_of_lt (lt_heap HX7.out)
   clear k0 k1 k2 k3 x0 x1 x2 x3 x4 x5 x6 x7 hb7 HB6 HX6 HO6 HCB q1 q3 qb hz6
   obtain ⟨-,-,q3,-,qb⟩:=HW.out _ HB7.out
   obtain ⟨r0,r1,-,-,-⟩:=box2 q3
   obtain ⟨z0,z1,z2,z3,z5⟩:=box2 HX7.out
   rcases HIC.out with ⟨e1,-⟩|⟨ic,hic,e1,-,-⟩
   ·have HS:=Lib.hid (show TW ⟨cn,ck,cw,cl,cm,cr,ci,ce⟩=⟨#[]⟩ by rw [HTC.out,e1];exact if_pos (by decide))
    rw [e1]
    clear e1
    go_wp2_with (at_builtin;(with_reducible refine ywpList_push_strs rfl _ _ 37 rfl ob i0 (.string ⟨#[]⟩) Tryz.underlying37 HI0.out HZ0.out HZ1.out HZ2.out rfl (.slice X j c) j ((ofs.take j).map TW) rfl HO7.out 1 [.string (⟨#[]⟩)] [⟨#[]⟩] rfl rfl rfl (by omega) hz7 ?_);intro X8 c8 w8 hown8 hg8;have hX8:=own_ty HO7.out hg8 HX7.out (by decide);obtain ⟨y0,y1,y2,y3,y4⟩:=box2 hX8)
    have HX9:=Lib.hid (show (w8.setCell ⟨ob,1,none⟩ (.slice X8 (j+1) c8)).heap[ob]?=some (.cells #[.string rt,.slice X8 (j+1) c8] 39 (0,0)) from heap_set hX8 1 _)
    have HO9:=Lib.hid (show (w8.setCell ⟨ob,1,none⟩ (.slice X8 (j+1) c8)).ownsRow ob 9 1 (.slice X8 (j+1) c8) (j+1) (ystrV ((ofs.take (j+1)).map TW)) by rw [HT.out,HS.out];exact own_set9 hown8 hX8 (by decide) _)
    have HB9:=Lib.hid (show Below ob w5 (w8.setCell ⟨ob,1,none⟩ (.slice X8 (j+1) c8)) from (HB7.out.grown hg8 hz7 (fun j' hj'=>(HO7.out.lt j' hj').1)).setCell (p:=⟨ob,1,none⟩) (Nat.le_refl _) _)
    go_roundw
    case rel=>first | exact ⟨j+1,X8,c8,by omega,by go_num,HO9,HX9,HB9⟩ | ((repeat apply Exists.intro);exact ⟨⟨j+1,X8,c8,by omega,by go_num,HO9,HX9,HB9⟩,rfl⟩)
    case measure=>simp [intOf];omega
   ·have HS:=Lib.hid (show TW ⟨cn,ck,cw,cl,cm,cr,ci,ce⟩=wd vs ic by rw [HTC.out,e1,Int.toNat_natCast];exact if_neg (by omega))
    rw [e1]
    have hicv:ic<nv:=by rw [HVN.out,<- HNF.out];exact hic
    obtain ⟨vb,vo,rfl,hvb,hvc⟩:=(HR.out.vals.below qb) (by show 0<vs.length;rw [HNV.out];omega)
    have s0:=hvc ic (by show ic<vs.length;rw [HNV.out];exact hicv)
    simp only at s0
    obtain ⟨sv,hsv⟩:∃ x,wd vs ic=x:=⟨_,rfl⟩
    rw [hsv] at s0 HS
    clear e1 hic hsv hvc hvb
    go_wp2_with (at_builtin;(with_reducible refine ywpList_push_strs rfl _ _ 37 rfl ob i0 (.string ⟨#[]⟩) Tryz.underlying37 HI0.out HZ0.out HZ1.out HZ2.out rfl (.slice X j c) j ((ofs.take j).map TW) rfl HO7.out 1 [.string (sv)] [sv] rfl rfl rfl (by omega) hz7 ?_);intro X8 c8 w8 hown8 hg8;have hX8:=own_ty HO7.out hg8 HX7.out (by decide);obtain ⟨y0,y1,y2,y3,y4⟩:=box2 hX8)
    have HX9:=Lib.hid (show (w8.setCell ⟨ob,1,none⟩ (.slice X8 (j+1) c8)).heap[ob]?=some (.cells #[.string rt,.slice X8 (j+1) c8] 39 (0,0)) from heap_set hX8 1 _)
    have HO9:=Lib.hid (show (w8.setCell ⟨ob,1,none⟩ (.slice X8 (j+1) c8)).ownsRow ob 9 1 (.slice X8 (j+1) c8) (j+1) (ystrV ((ofs.take (j+1)).map TW)) by rw [HT.out,HS.out];exact own_set9 hown8 hX8 (by decide) _)
    have HB9:=Lib.hid (show Below ob w5 (w8.setCell ⟨ob,1,none⟩ (.slice X8 (j+1) c8)) from (HB7.out.grown hg8 hz7 (fun j' hj'=>(HO7.out.lt j' hj').1)).setCell (p:=⟨ob,1,none⟩) (Nat.le_refl _) _)
    go_roundw
    case rel=>first | exact ⟨j+1,X8,c8,by omega,by go_num,HO9,HX9,HB9⟩ | ((repeat apply Exists.intro);exact ⟨⟨j+1,X8,c8,by omega,by go_num,HO9,HX9,HB9⟩,rfl⟩)
    case measure=>simp [intOf];omega
  ·obtain rfl:j=no:=by omega
   have HTE2:=Lib.hid (show TV=(ofs.take j).map TW from HTE.out)
   have HXW:=Lib.hid (show ∀ wx,Below wr.heap.size wr wx->wx.heap[ob]?=some (.cells #[.string rt,.slice X j c] 39 (0,0))/\wx.ownsRow ob 9 1 (.slice X j c) j (ystrV ((ofs.take j).map TW))/\Below ob w5 wx from fun wx h=>⟨heap_below HX.out h,own_below HOW.out h,below_then h HB.out (Nat.le_of_lt hzr)⟩)
   obtain ⟨⟨k0,k1,k2,k3⟩,-,-⟩:=obox4 q1
   have hzA:=hzr
   clear q1 q2 q3 q4 qb HX HB HOW hzr
   rename World=>wA
   go_wp2_with fail
   clear k0 k1 k2 k3
   have HQ:=Lib.hid (show ∀ wx,Below wA.heap.size wA wx->wx.heap[w.heap.size+1]?=some (.cells #[.string ot,.slice OA j OC,.int .i64 om,.string ou] 83 (0,0))/\wx.heap[w.heap.size+1+1]?=some (.cells #[.string rt,.slice RA nv RC] 39 (0,0))/\Below w.heap.size w wx from fun wx h=>by
    have h2:=HW.out _ (HXW.out _ h).2.2
    exact ⟨h2.2.1,h2.2.2.1,h2.2.2.2.2⟩)
   go_loopw [47,13] (fun i t wx=>∃ (i':Nat),i'<=nf/\i=.int .i64 i'/\t=.int .i64 (LN i':Nat)/\Hid (Below wA.heap.size wA wx)) (fun i t _=>nf-(intOf i).toNat)
   case atStart=>exact ⟨0,by omega,rfl,by first | rfl | (rw [show LN 0=0 from by have:=HLE.out 0;omega];rfl),Lib.hid (Below.refl _ _)⟩
   case round=>
    obtain ⟨i,hi',rfl,rfl,HB⟩:=hrel
    have hzr:=HB.out.size
    have hle:=HLE.out i
    obtain ⟨-,q3,qb⟩:=HQ.out _ HB.out
    have QB:=Lib.hid qb
    rcases Nat.lt_or_ge i nf with hlt2 | hge2
    ·have hil:i<kfs.length:=by rw [HNF.out];exact hlt2
     have hiv:i<nv:=by rw [HVN.out];exact hlt2
     obtain ⟨cb,co,rfl,hcb,d0,d1,d2,d3,d4,d5,d6,d7⟩:=(HK.out.below QB.out).cells hil
     obtain ⟨vb,vo,rfl,hvb,hvc⟩:=(HR.out.vals.below QB.out) (by show 0<vs.length;rw [HNV.out];omega)
     have s0:=hvc i (by show i<vs.length;rw [HNV.out];exact hiv)
     simp only at s0
     have HL1:=Lib.hid (HLS.out i)
     have HL2:=Lib.hid (HLB.out (cA kfs i) (wd vs i))
     obtain ⟨C,hC⟩:∃ x,cA kfs i=x:=⟨_,rfl⟩
     obtain ⟨sv,hsv⟩:∃ x,wd vs i=x:=⟨_,rfl⟩
     rw [hC] at d0 d1 d2 d3 d4 d5 d6 d7 HL1 HL2
     rw [hsv] at s0 HL1 HL2
     obtain ⟨cn,ck,cw,cl,cm,cr,ci,ce⟩:=C
     simp only at d0 d1 d2 d3 d4 d5 d6 d7 HL2
     have s1:(wr.alloc (.cells #[.string cn,.int .i64 ck,.int .i64 cw,.int .i64 cl,.int .i64 cm,.bool cr,.int .u8 ci,.bool ce] 91)).cell? ⟨vb,vo+i,none⟩=some (.string sv):=(World.cell?_alloc_some wr _ _ (by rw [s0];rfl)).trans s0
     have HCB:=Lib.hid (heap_new wr (.cells #[.string cn,.int .i64 ck,.int .i64 cw,.int .i64 cl,.int .i64 cm,.bool cr,.int .u8 ci,.bool ce] 91) rfl)
     have HB6:=Lib.hid (show Below wA.heap.size wA (wr.alloc (.cells #[.string cn,.int .i64 ck,.int .i64 cw,.int .i64 cl,.int .i64 cm,.bool cr,.int .u8 ci,.bool ce] 91)) from HB.out.alloc hzr _)
     have hix:=HIO.out cn
     obtain ⟨IX,hIX⟩:∃ x,ixF (nameIs cn) ofs=x:=⟨_,rfl⟩
     have HCC:=Lib.hid (fun wx h=>HCO.out cn wx h)
     rw [hIX] at HL2 hix HCC
     have hem:=emp_dec sv
     clear hC hil hsv hvc hvb s0 hIX q3 qb
     go_upto_region 15 with fail
     obtain ⟨cb2,hcb2⟩:∃ x,wr.heap.size=x:=⟨_,rfl⟩
     rw [hcb2] at HCB
     try rw [hcb2]
     generalize wr.alloc (.cells #[.string cn,.int .i64 ck,.int .i64 cw,.int .i64 cl,.int .i64 cm,.bool cr,.int .u8 ci,.bool ce] 91)=w6 at HCB HB6 s1 ⊢
     clear hcb2 d0 d1 d2 d3 d4 d5 d6 d7 hcb HB QB hzr
     obtain ⟨q2,q3,qb⟩:=HQ.out _ HB6.out
     have QB:=Lib.hid qb
     obtain ⟨r0,r1,-,-,-⟩:=box2 q3
     by_cases h0:sv=⟨#[]⟩
     ·have HN:=Lib.hid (show LN (i+1)=LN i by rw [HL1.out,HL2.out,decide_eq_false (fun h=>h h0)];rfl)
      rw [decide_eq_true h0] at hem
      clear h0
      go_wp2
      go_roundw
      case rel=>exact ⟨i+1,by omega,by go_num,by rw [HN.out],HB6⟩
      case measure=>simp [intOf];omega
     rw [decide_eq_false h0] at hem
     have HL3:=Lib.hid (show LB ⟨cn,ck,cw,cl,cm,cr,ci,ce⟩ sv=decide (IX<0) by rw [HL2.out,decide_eq_true h0];rfl)
     obtain ⟨⟨k0,k1,k2,k3⟩,-,-⟩:=obox4 q2
     obtain ⟨⟨x0,x1,x2,x3,x4,x5,x6,x7⟩,-⟩:=obox8 HCB.out
     clear h0 q2 q3 qb HL2
     go_wp2_with fail
     refine (HCC.out _ QB.out).mono ?_
     rintro _ w7 ⟨rfl,hb7⟩
     have HB7:=Lib.hid (below_then hb7 HB6.out HB6.out.size)
     clear k0 k1 k2 k3 x0 x1 x2 x3 x4 x5 x6 x7 r0 r1 s1 hb7 HB6 HCB
     by_cases hneg:IX<0
     ·have HN:=Lib.hid (show LN (i+1)=LN i+1 by rw [HL1.out,HL3.out,decide_eq_true hneg];rfl)
      go_wp2
      go_roundw
      case rel=>exact ⟨i+1,by omega,by go_num,by rw [HN.out];go_num,HB7⟩
      case measure=>simp [intOf];omega
     ·have HN:=Lib.hid (show LN (i+1)=LN i by rw [HL1.out,HL3.out,decide_eq_false hneg];rfl)
      go_wp2
      go_roundw
      case rel=>exact ⟨i+1,by omega,by go_num,by rw [HN.out],HB7⟩
      case measure=>simp [intOf];omega
    ·obtain rfl:i=nf:=by omega
     obtain ⟨hx,how,hbx⟩:=HXW.out _ HB.out
     have q4:=(HW.out _ hbx).2.2.2.1
     have HX9:=Lib.hid hx;have HO9:=Lib.hid how;have HZ9:=Lib.hid q4;have QB9:=Lib.hid (HW.out _ hbx).2.2.2.2
     obtain ⟨x0,x1,-,-,-⟩:=box2 hx
     obtain ⟨z0,z1,z2,z3,z5⟩:=box2 q4
     clear hx how hbx q3 qb
     go_wp2
     have hz9:((wr.setCell ⟨w.heap.size+1+1+1,0,none⟩ (.string rt)).setCell ⟨w.heap.size+1+1+1,1,none⟩ (.slice X j c)).heap[w.heap.size+1+1+1]?=some (.cells #[.string rt,.slice X j c] 39 (0,0)):=heap_set (heap_set HZ9.out 0 _) 1 _
     obtain ⟨u0,u1,-,-,-⟩:=box2 hz9
     refine bodyPost_ret (v:=.tuple #[.agg #[.string rt,.slice X j c],.int .i64 (LN i:Nat)]) (by simp [results,Tryz.results50,go_sem,u0,u1]) rfl ⟨X,c,by rw [HTN.out],?_,?_⟩
     ·rw [HTN.out,HTE2.out]
      exact own_mono (own_set9 (own_set9 HO9.out HZ9.out (by decide) _) (heap_set HZ9.out 0 _) (by decide) _) (by omega)
     ·exact (QB9.out.setCell (p:=⟨w.heap.size+1+1+1,0,none⟩) (by show w.heap.size<=w.heap.size+1+1+1;omega) _).setCell (p:=⟨w.heap.size+1+1+1,1,none⟩) (by show w.heap.size<=w.heap.size+1+1+1;omega) _
set_option maxHeartbeats 4000000 in
set_option maxRecDepth 100000 in
theorem chkrows_c (f:Fmt) (A:Option Addr) (cp:Nat) (FA:Nat->Option Addr) (FC:Nat->Nat) (L:Option Addr) (LC:Nat) (rs:List RowP) (RA:Nat->Option Addr) (RC:Nat->Nat) (w:World) (ho:Kinds w A f.kinds FA FC) (hl:RowsM w L rs RA RC) (hcp:f.kinds.length<=cp) (hf:checkF f=0) (hm:0<=f.mark/\f.mark<=255) (ht:Tab w) :
  Calls Tryz.prog 32 #[fmtG f A cp,.slice L rs.length LC] w (RetNF (rowsF f rs).1 (rowsF f rs).2 w):=by
 have HCR:=Lib.hid (fun j w h h2 ht=>checkrow_c f A cp FA FC (rA rs j) (RA j) (RC j) w h h2 hf hm ht)
 have HKI:=Lib.hid ho;have HLM:=Lib.hid hl;have HTB:=Lib.hid ht
 obtain ⟨R,hR⟩:∃ x,rowsF f rs=x:=⟨_,rfl⟩
 have HR:=Lib.hid (show frF (fun j=>(rowF f (rA rs j)).2) rs.length=R from hR)
 rw [hR]
 have hnr:=hl.len
 clear ho hl ht hf hR
 obtain ⟨m,q,ks,hd,tl,ct,sm⟩:=f
 unfold fmtG at HCR ⊢
 simp only at HCR HKI hcp ⊢
 obtain ⟨n,hn⟩:∃ x,ks.length=x:=⟨_,rfl⟩
 rw [hn] at HCR hcp ⊢
 clear hn
 have hF0:=heap_new w (.cells #[.int .u8 m,.int .u8 q,.slice A n cp,.string hd,.string tl,.string ct,.string sm] 44) rfl
 have hB0:Below w.heap.size w (w.alloc (.cells #[.int .u8 m,.int .u8 q,.slice A n cp,.string hd,.string tl,.string ct,.string sm] 44)):=by go_grown
 obtain ⟨nr,hnr2⟩:∃ x,rs.length=x:=⟨_,rfl⟩
 have HNR:=Lib.hid hnr2
 rw [hnr2] at HR hnr ⊢
 clear hnr2
 go_enter Tryz.func32,Tryz.ntmps32
 obtain ⟨⟨f0,f1,f2,f3,f4,f5,f6⟩,f7⟩:=obox7 hF0
 have HF0:=Lib.hid hF0;have HB0:=Lib.hid hB0
 go_upto_region 1 with fail
 generalize w.alloc (.cells #[.int .u8 m,.int .u8 q,.slice A n cp,.string hd,.string tl,.string ct,.string sm] 44)=w1 at f0 f1 f2 f3 f4 f5 f6 f7 HF0 HB0 hB0 hF0 ⊢
 have hz1:=hB0.size
 clear f0 f1 f2 f3 f4 f5 f6 f7 hF0 hB0
 go_wp2_with fail
 go_loopw [12] (fun i wr=>∃ j:Nat,j<=nr/\i=.int .i64 j/\Hid (Below w1.heap.size w1 wr)/\Hid (∀ t,t<j->(rowF ⟨m,q,ks,hd,tl,ct,sm⟩ (rA rs t)).2=0)) (fun i _=>nr-(intOf i).toNat)
 case atStart=>exact ⟨0,Nat.zero_le _,rfl,Lib.hid (Below.refl _ _),Lib.hid (fun t h=>absurd h (Nat.not_lt_zero _))⟩
 case round=>
  obtain ⟨j,hj,rfl,HB,HJ⟩:=hrel
  have HBW:=Lib.hid (below_then HB.out HB0.out hz1)
  have hzr:=HB.out.size
  rcases Nat.lt_or_ge j nr with hlt | hge
  ·obtain ⟨b,off,rfl,hbw,c0,c1⟩:=(HLM.out.below HBW.out).cells (j:=j) (by rw [HNR.out];exact hlt)
   have HRJ:=Lib.hid ((HLM.out.below HBW.out).each j (by rw [HNR.out];exact hlt))
   have HCJ:=Lib.hid (fun w h h2 ht=>HCR.out j w h h2 ht)
   obtain ⟨r,hr⟩:∃ x,rA rs j=x:=⟨_,rfl⟩
   obtain ⟨RJ,hRJ⟩:∃ x,RA j=x:=⟨_,rfl⟩
   obtain ⟨CJ,hCJ⟩:∃ x,RC j=x:=⟨_,rfl⟩
   obtain ⟨⟨x,e⟩,hX⟩:∃ y,rowF ⟨m,q,ks,hd,tl,ct,sm⟩ r=y:=⟨_,rfl⟩
   have HX:=Lib.hid (show (rowF ⟨m,q,ks,hd,tl,ct,sm⟩ (rA rs j)).2=e by rw [hr,hX])
   rw [hr,hRJ,hCJ] at HCJ HRJ
   rw [hr] at c0
   rw [hr,hRJ,hCJ] at c1
   rw [hX] at HCJ
   unfold RetNF at HCJ
   clear hr hRJ hCJ hX
   obtain ⟨tg,vs⟩:=r
   unfold rowG at HCJ
   simp only at HCJ c0 c1
   obtain ⟨nv,hnv⟩:∃ x,vs.length=x:=⟨_,rfl⟩
   rw [hnv] at HCJ c1
   clear hnv
   have hF5:=heap_old (keep_heap HF0.out HB.out (lt_heap HF0.out)) (.cells #[.string tg,.slice RJ nv CJ] 39)
   have hR5:=heap_new wr (.cells #[.string tg,.slice RJ nv CJ] 39) rfl
   have hb5:Below wr.heap.size wr (wr.alloc (.cells #[.string tg,.slice RJ nv CJ] 39)):=by go_grown
   go_upto_region 4 with fail
   obtain ⟨rn,hrn⟩:∃ x,wr.heap.size=x:=⟨_,rfl⟩
   rw [hrn] at hR5 ⊢
   have hb15:=below_then hb5 HB.out hzr
   generalize wr.alloc (.cells #[.string tg,.slice RJ nv CJ] 39)=w5 at hF5 hR5 hb5 hb15 ⊢
   have HBW5:=Lib.hid (below_then hb5 HBW.out HBW.out.size)
   obtain ⟨⟨f0,f1,f2,f3,f4,f5,f6⟩,f7⟩:=obox7 hF5
   obtain ⟨r0,r1,-,-,r2⟩:=box2 hR5
   have HRJ5:=Lib.hid (HRJ.out.below hb5)
   clear c0 c1 hF5 hR5 hrn hbw hb5
   go_wp2_with fail
   refine (HCJ.out _ (HKI.out.below HBW5.out) HRJ5.out (HTB.out.below HBW5.out)).mono ?_
   rintro _ w6 ⟨rfl,hb6⟩
   have HB6:=Lib.hid (below_then hb6 hb15 hb15.size)
   clear f0 f1 f2 f3 f4 f5 f6 f7 r0 r1 r2 hb6 hb15
   by_cases h0:e=0
   ·subst h0
    have HJ2:=Lib.hid (show ∀ t,t<j+1->(rowF ⟨m,q,ks,hd,tl,ct,sm⟩ (rA rs t)).2=0 from fun t ht=>by
     rcases Nat.lt_or_ge t j with h | h
     ·exact HJ.out t h
     ·obtain rfl:t=j:=by omega
      exact HX.out)
    go_wp2
    go_roundw
    case rel=>exact ⟨j+1,by omega,by go_num,HB6,HJ2⟩
    case measure=>simp [intOf];omega
   ·have HE:=Lib.hid (show R=((j:Int),e) by rw [<- HR.out,frF_hit (j:=j) HJ.out (by show (rowF _ _).2≠0;rw [HX.out];exact h0) hlt];exact congrArg _ HX.out)
    have h0a:(e !=0)=true:=by simpa using h0
    have hbn:=below_then HB6.out HB0.out hz1
    clear h0
    go_wp2
    go_ret2
    exact ⟨by rw [HE.out];rfl,hbn⟩
  ·obtain rfl:j=nr:=by omega
   have HE:=Lib.hid (show R=(0,0) by rw [<- HR.out];exact frF_no HJ.out)
   have hbn:=HBW.out
   go_wp2
   go_ret2
   exact ⟨by rw [HE.out];rfl,hbn⟩
set_option maxHeartbeats 2000000 in
set_option maxRecDepth 100000 in
theorem rowsfault_c (f:Fmt) (A:Option Addr) (cp:Nat) (FA:Nat->Option Addr) (FC:Nat->Nat) (L:Option Addr) (LC:Nat) (rs:List RowP) (RA:Nat->Option Addr) (RC:Nat->Nat) (w:World) (ho:Kinds w A f.kinds FA FC) (hl:RowsM w L rs RA RC) (hcp:f.kinds.length<=cp) (hm:0<=f.mark/\f.mark<=255) (hq:0<=f.quote/\f.quote<=255) (ht:Tab w) :
  Calls Tryz.prog 48 #[fmtG f A cp,.slice L rs.length LC] w (RetI (askF f rs) w):=by
 have HCH:=Lib.hid (fun w h=>check_c f A cp FA FC w h hcp hm hq)
 have HCR:=Lib.hid (fun hf w h h2 ht=>chkrows_c f A cp FA FC L LC rs RA RC w h h2 hcp hf hm ht)
 have HKI:=Lib.hid ho;have HLM:=Lib.hid hl;have HTB:=Lib.hid ht
 obtain ⟨X,hX⟩:∃ x,checkF f=x:=⟨_,rfl⟩
 obtain ⟨⟨i,e⟩,hY⟩:∃ x,rowsF f rs=x:=⟨_,rfl⟩
 obtain ⟨R,hR⟩:∃ x,askF f rs=x:=⟨_,rfl⟩
 have HR:=Lib.hid (show (if X≠0 then X else if 2000<rs.length then 2 else e)=R by rw [<- hR];unfold askF;rw [hX,hY])
 rw [hX] at HCH HCR
 rw [hY] at HCR
 rw [hR]
 unfold RetNF at HCR
 unfold RetI at HCH
 simp only at HCR
 have hnr:=hl.len
 clear ho hl ht hX hY hR
 obtain ⟨m,q,ks,hd,tl,ct,sm⟩:=f
 unfold fmtG at HCH HCR ⊢
 simp only at HCH HCR HKI hcp ⊢
 obtain ⟨n,hn⟩:∃ x,ks.length=x:=⟨_,rfl⟩
 rw [hn] at HCH HCR hcp ⊢
 clear hn
 have hF0:=heap_new w (.cells #[.int .u8 m,.int .u8 q,.slice A n cp,.string hd,.string tl,.string ct,.string sm] 44) rfl
 have hB0:Below w.heap.size w (w.alloc (.cells #[.int .u8 m,.int .u8 q,.slice A n cp,.string hd,.string tl,.string ct,.string sm] 44)):=by go_grown
 obtain ⟨nr,hnr2⟩:∃ x,rs.length=x:=⟨_,rfl⟩
 rw [hnr2] at HCR HR hnr ⊢
 clear hnr2
 go_enter Tryz.func48,Tryz.ntmps48
 obtain ⟨⟨f0,f1,f2,f3,f4,f5,f6⟩,f7⟩:=obox7 hF0
 go_wp2_with fail
 refine (HCH.out _ (HKI.out.below hB0)).mono ?_
 rintro _ w2 ⟨rfl,hb2⟩
 have hF2:=heap_below hF0 hb2
 have hB2:=below_then hb2 hB0 hB0.size
 clear hF0 hb2 f0 f1 f2 f3 f4 f5 f6 f7 hB0
 obtain ⟨⟨f0,f1,f2,f3,f4,f5,f6⟩,f7⟩:=obox7 hF2
 by_cases h0:X=0
 ·subst h0
  by_cases h1:2000<nr
  ·have HE:=Lib.hid (show R=2 by rw [<- HR.out,if_neg (by simp),if_pos h1])
   have h1a:(2000:Int)<(nr:Int):=by omega
   clear h1
   go_wp2
   go_ret
   exact ⟨by rw [HE.out];rfl,hB2⟩
  ·have HE:=Lib.hid (show R=e by rw [<- HR.out,if_neg (by simp),if_neg h1])
   have h1a:¬ (2000:Int)<(nr:Int):=by omega
   clear h1
   go_wp2_with fail
   refine (HCR.out trivial _ (HKI.out.below hB2) (HLM.out.below hB2) (HTB.out.below hB2)).mono ?_
   rintro _ w3 ⟨rfl,hb3⟩
   have hB3:=below_then hb3 hB2 hB2.size
   go_wp2
   go_ret
   exact ⟨by rw [HE.out];rfl,hB3⟩
 ·have HE:=Lib.hid (show R=X by rw [<- HR.out,if_pos h0])
  have h0a:(X !=0)=true:=by simpa using h0
  clear h0
  go_wp2
  go_ret
  exact ⟨by rw [HE.out];rfl,hB2⟩
end Go.Proofs.YtbfbgappinilmaaGreatDoor
