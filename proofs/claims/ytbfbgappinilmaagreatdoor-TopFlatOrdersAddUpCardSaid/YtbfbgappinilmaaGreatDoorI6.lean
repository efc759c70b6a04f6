/- The walk of reader.quoted. The walks of marked of the program and quoted of the reference at longer values (as V8's). -/
import Derived.Test.YtbfbgappinilmaaGreatDoorI4
import Derived.Test.YtbfbgappinilmaaGreatDoorT3
import Derived.Test.YtbfbgappinilmaaGreatDoorYP
-- merged: I5 I6
namespace Go.Proofs.YtbfbgappinilmaaGreatDoor
open Go.RowKit Limb Nmb Work
set_option linter.unusedVariables false
set_option linter.unusedSimpArgs false
def quotL (q:UInt8):List UInt8->Option (List UInt8×Nat)
 | []=>none
 | [b]=>if b=q then some ([],1) else none
 | b :: c :: l=>if b=q then (if c=q then (quotL q l).map (fun p=>(q :: p.1,p.2+2)) else some ([],1)) else (quotL q (c :: l)).map (fun p=>(b :: p.1,p.2+1))
def qAdd (os:List UInt8) (k:Nat) (r:Option (List UInt8×Nat)):Option (List UInt8×Nat):=r.map (fun p=>(os++p.1,k+p.2))
def RetQ (r:Option (List UInt8×Nat)) (w:World) (e:Ending) (w':World):Prop :=
 e=.returned (.tuple #[.string (bs ((r.map (·.1)).getD [])),.int .i64 (((r.map (·.2)).getD 0:Nat):Int),.bool r.isSome])/\Below w.heap.size w w'
theorem quot_ne {q b:UInt8} {l:List UInt8} (h:b≠q):quotL q (b :: l)=(quotL q l).map (fun p=>(b :: p.1,p.2+1)):=by
 cases l with
 | nil=>unfold quotL;rw [if_neg h];rfl
 | cons c l=>rw [quotL,if_neg h]
theorem quot_end {q:UInt8} {l:List UInt8} (h:l.head? ≠ some q):quotL q (q :: l)=some ([],1):=by
 cases l with
 | nil=>unfold quotL;rw [if_pos rfl]
 | cons c l=>rw [quotL,if_pos rfl,if_neg (fun e=>h (by rw [e];rfl))]
theorem quot_two {q:UInt8} {l:List UInt8} : quotL q (q :: q :: l)=(quotL q l).map (fun p=>(q :: p.1,p.2+2)):=by
 rw [quotL,if_pos rfl,if_pos rfl]
theorem qadd_ne {q b:UInt8} {l os:List UInt8} {k:Nat} (h:b≠q):qAdd os k (quotL q (b :: l))=qAdd (os++[b]) (k+1) (quotL q l):=by
 rw [quot_ne h]
 unfold qAdd
 rw [Option.map_map]
 congr 1
 funext p
 simp
 omega
theorem qadd_two {q:UInt8} {l os:List UInt8} {k:Nat} : qAdd os k (quotL q (q :: q :: l))=qAdd (os++[q]) (k+2) (quotL q l):=by
 rw [quot_two]
 unfold qAdd
 rw [Option.map_map]
 congr 1
 funext p
 simp
 omega
def bvL (l:List UInt8):List Value:=l.map (fun b=>Value.int .u8 (b.toNat:Int))
theorem bvL_snoc (l:List UInt8) (b:UInt8):bvL l++[.int .u8 (b.toNat:Int)]=bvL (l++[b]):=by unfold bvL;simp
theorem drop_at (s:ByteArray) {j:Nat} (h:j<s.size):s.data.toList.drop j=s[j] :: s.data.toList.drop (j+1):=by
 rw [List.drop_eq_getElem_cons (by simpa using h)]
 rfl
theorem byte_ne {a b:UInt8} (h:a≠b):((a.toNat:Int) !=(b.toNat:Int))=true:=by
 simp only [bne_iff_ne]
 intro e
 exact h (UInt8.toNat_inj.1 (by omega))
set_option maxRecDepth 100000 in
theorem conv_own {w:World} {B:Nat} {A:Option Addr} {c:Nat} {os:List UInt8} (h:w.ownsRow B 5 1 (.slice A os.length c) os.length (bvL os)) :
  (convert 93 9 (.slice A os.length c)).run Tryz.prog w=.ok (.string (bs os)) w:=by
 rcases h.2 with ⟨hv,h0⟩|⟨g,cap,cur,hv,-,-⟩
 ·have hz:os=[]:=List.length_eq_zero_iff.1 h0
  subst hz
  injection hv with hA
  subst hA
  exact run_convert_bytes_nil (P:=Tryz.prog) w 93 5 Tryz.underlying93 Tryz.underlying5 _ _ 9 Tryz.underlying9
 ·injection hv with hA
  subst hA
  exact run_convert_bytes_back (P:=Tryz.prog) w 93 9 5 ⟨g,0,none⟩ c os Tryz.underlying93 Tryz.underlying5 Tryz.underlying9 (fun k hk=>by
   rw [show (⟨g,0,none⟩:Addr).add k=⟨g,k,none⟩ by unfold Addr.add;split<;>simp_all]
   exact (h.cellAt k (by omega)).trans (by unfold bvL;rw [List.getElem?_map,List.getElem?_eq_getElem hk];first | rfl | done))
set_option maxHeartbeats 4000000 in
set_option maxRecDepth 100000 in
theorem quoted_c (m:Int) (qb:UInt8) (A:Option Addr) (n cp:Nat) (hd tl ct sm line:ByteArray) (i fr g:Nat) (w:World) (hl:line.size<=6000) (hi:fr<line.size)
  (hg:w.heap[g]?=some (.cells #[.int .u8 m,.int .u8 (qb.toNat:Int),.slice A n cp,.string hd,.string tl,.string ct,.string sm,.string line,.int .i64 i] 145 (0,0))) :
  Calls Tryz.prog 130 #[.pointer (some ⟨g,0,none⟩),.int .i64 (fr:Int)] w (RetQ (qAdd [] (fr+1) (quotL qb (line.data.toList.drop (fr+1)))) w):=by
 obtain ⟨R,hR⟩:∃ x,qAdd [] (fr+1) (quotL qb (line.data.toList.drop (fr+1)))=x:=⟨_,rfl⟩
 rw [hR]
 have HR:=Lib.hid hR
 clear hR
 obtain ⟨i0,hi0,hz0,hz1,hz2⟩:=info_parts Tryz.info5
 have HGL:=Lib.hid (lt_heap hg)
 unfold RetQ
 go_enter Tryz.func130,Tryz.ntmps130
 go_wp2_with fail
 go_loopw [7,8] (fun x y wr=>∃ (os:List UInt8) (A2:Option Addr) (c2 j:Nat),x=.slice A2 os.length c2/\y=.int .i64 (j:Int)/\j<=line.size/\os.length<=j/\wr.ownsRow w.heap.size 5 1 (.slice A2 os.length c2) os.length (bvL os)/\Hid (qAdd os j (quotL qb (line.data.toList.drop j))=R)/\Hid (wr.heap[g]?=some (.cells #[.int .u8 m,.int .u8 (qb.toNat:Int),.slice A n cp,.string hd,.string tl,.string ct,.string sm,.string line,.int .i64 i] 145 (0,0)))/\Below w.heap.size w wr) (fun _ y _=>line.size+1-(intOf y).toNat)
 case atStart=>exact ⟨[],none,0,fr+1,rfl,by go_num,by omega,by simp,World.ownsRow_nil _ _ _ _,HR,Lib.hid hg,Below.refl _ _⟩
 case round=>
  obtain ⟨os,A2,c2,j,rfl,rfl,hj,hoj,hown,HQ,HG,hB⟩:=hrel
  obtain ⟨⟨⟨g0,g1,g2,g3,g4,g5,g6,g7,g8⟩,z0,z1,z2,z3,z4,z5,z6,z7,z8⟩,gz⟩:=obox9 HG.out
  rcases Nat.lt_or_ge j line.size with hjn | hjn
  case inr=>
   have HE:=Lib.hid (show R=none by rw [<- HQ.out,List.drop_eq_nil_of_le (by simpa using hjn)];rfl)
   go_wp2
   go_ret3
   rw [HE.out]
   exact ⟨rfl,hB⟩
  have e1:IntKind.i64.wrap ((j:Int)+1)=(j:Int)+1:=IntWalk.i64_in _ (by omega)
  obtain ⟨b,hb⟩:∃ x,line[j]=x:=⟨_,rfl⟩
  have HDJ:=Lib.hid (show line.data.toList.drop j=b :: line.data.toList.drop (j+1) by rw [drop_at line hjn,hb])
  by_cases hbq:b=qb
  case neg=>
   have hne:=byte_ne hbq
   have HQ2:=Lib.hid (show qAdd (os++[b]) (j+1) (quotL qb (line.data.toList.drop (j+1)))=R by rw [<- HQ.out,HDJ.out,qadd_ne hbq])
   clear hbq
   go_wp2_with fail
   go_quiet (fail)
   have howna:((wr.drewN nq).ownsRow w.heap.size 5 1 (.slice A2 os.length c2) os.length (bvL os)):=by exact hown
   have HGa:=Lib.hid (show (wr.drewN nq).heap[g]?=_ from HG.out)
   have HBa:=Lib.hid (below_drewN hB nq)
   clear g0 g1 g2 g3 g4 g5 g6 g7 g8 z0 z1 z2 z3 z4 z5 z6 z7 z8 gz hown
   generalize wr.drewN nq=wa at howna HGa HBa ⊢
   obtain ⟨⟨⟨g0,g1,g2,g3,g4,g5,g6,g7,g8⟩,z0,z1,z2,z3,z4,z5,z6,z7,z8⟩,gz⟩:=obox9 HGa.out
   clear hB
   go_wp2_with (first
    | (at_builtin;refine wpList_push_own rfl _ _ 93 rfl w.heap.size 5 i0 (.int .u8 0) 1 Tryz.underlying93 hi0 hz0 hz1 hz2 rfl (.slice A2 os.length c2) os.length (bvL os) rfl howna (.int .u8 (b.toNat:Int)) rfl rfl (by unfold maxLen;omega) (by omega) HBa.out.size ?_;intro A3 c3 w3 hown3 hg3;have HG3:=Lib.hid (tgrown_heap HGa.out howna hg3 (by decide));have HB3:=Lib.hid (HBa.out.grown hg3 HBa.out.size (town_ge howna))))
   go_roundw
   case rel=>
    refine ⟨os++[b],A3,c3,j+1,by simp,by go_num,by omega,by simp;omega,?_,HQ2,HG3,HB3.out⟩
    rw [List.length_append,List.length_singleton,<- bvL_snoc]
    exact hown3
   case measure=>simp [intOf];omega
  subst hbq
  have heq:((b.toNat:Int) !=(b.toNat:Int))=false:=by simp
  by_cases hend:(line.data.toList.drop (j+1)).head?=some b
  case neg=>
   have HE:=Lib.hid (show R=some (os,j+1) by rw [<- HQ.out,HDJ.out,quot_end hend];unfold qAdd;simp)
   go_wp2_with fail
   go_quiet (fail)
   have howna:((wr.drewN nq).ownsRow w.heap.size 5 1 (.slice A2 os.length c2) os.length (bvL os)):=by exact hown
   have HGa:=Lib.hid (show (wr.drewN nq).heap[g]?=_ from HG.out)
   have HBa:=Lib.hid (below_drewN hB nq)
   clear g0 g1 g2 g3 g4 g5 g6 g7 g8 z0 z1 z2 z3 z4 z5 z6 z7 z8 gz hown
   generalize wr.drewN nq=wa at howna HGa HBa ⊢
   obtain ⟨⟨⟨g0,g1,g2,g3,g4,g5,g6,g7,g8⟩,z0,z1,z2,z3,z4,z5,z6,z7,z8⟩,gz⟩:=obox9 HGa.out
   clear hB
   rcases Nat.lt_or_ge (j+1) line.size with hj1 | hj1
   case inr=>
    have k1:((j:Int)+1==(line.size:Int))=true:=by simp only [beq_iff_eq];omega
    go_wp2_with fail
    go_quiet (fail)
    have hownb:((wa.drewN nq).ownsRow w.heap.size 5 1 (.slice A2 os.length c2) os.length (bvL os)):=by exact howna
    have HGb:=Lib.hid (show (wa.drewN nq).heap[g]?=_ from HGa.out)
    have HBb:=Lib.hid (below_drewN HBa.out nq)
    clear g0 g1 g2 g3 g4 g5 g6 g7 g8 z0 z1 z2 z3 z4 z5 z6 z7 z8 gz howna
    generalize wa.drewN nq=wb at hownb HGb HBb ⊢
    obtain ⟨⟨⟨g0,g1,g2,g3,g4,g5,g6,g7,g8⟩,z0,z1,z2,z3,z4,z5,z6,z7,z8⟩,gz⟩:=obox9 HGb.out
    have hcv:=conv_own hownb
    clear hownb
    go_wp2
    go_ret3
    rw [HE.out]
    exact ⟨rfl,HBb.out⟩
   have k1:((j:Int)+1==(line.size:Int))=false:=by simp only [beq_eq_false_iff_ne];omega
   have k2:(0:Int)<=(j:Int)+1:=by omega
   have k3:((j:Int)+1).toNat=j+1:=by omega
   obtain ⟨b2,hb2⟩:∃ x,line[j+1]=x:=⟨_,rfl⟩
   have hne:=byte_ne (a:=b2) (b:=b) (fun e=>hend (by rw [drop_at line hj1,hb2,e];rfl))
   clear hend
   go_wp2_with fail
   go_quiet (fail)
   have hownb:((wa.drewN nq).ownsRow w.heap.size 5 1 (.slice A2 os.length c2) os.length (bvL os)):=by exact howna
   have HGb:=Lib.hid (show (wa.drewN nq).heap[g]?=_ from HGa.out)
   have HBb:=Lib.hid (below_drewN HBa.out nq)
   clear g0 g1 g2 g3 g4 g5 g6 g7 g8 z0 z1 z2 z3 z4 z5 z6 z7 z8 gz howna
   generalize wa.drewN nq=wb at hownb HGb HBb ⊢
   obtain ⟨⟨⟨g0,g1,g2,g3,g4,g5,g6,g7,g8⟩,z0,z1,z2,z3,z4,z5,z6,z7,z8⟩,gz⟩:=obox9 HGb.out
   have hcv:=conv_own hownb
   clear hownb
   go_wp2
   go_ret3
   rw [HE.out]
   exact ⟨rfl,HBb.out⟩
  have hj1:j+1<line.size:=by
   rcases Nat.lt_or_ge (j+1) line.size with h | h
   ·exact h
   ·rw [List.drop_eq_nil_of_le (by simpa using h)] at hend;cases hend
  have hb2:line[j+1]=b:=by rw [drop_at line hj1] at hend;simpa using hend
  have HQ2:=Lib.hid (show qAdd (os++[b]) (j+2) (quotL b (line.data.toList.drop (j+2)))=R by rw [<- HQ.out,HDJ.out,drop_at line hj1,hb2,qadd_two])
  clear hend
  go_wp2_with fail
  go_quiet (fail)
  have howna:((wr.drewN nq).ownsRow w.heap.size 5 1 (.slice A2 os.length c2) os.length (bvL os)):=by exact hown
  have HGa:=Lib.hid (show (wr.drewN nq).heap[g]?=_ from HG.out)
  have HBa:=Lib.hid (below_drewN hB nq)
  clear g0 g1 g2 g3 g4 g5 g6 g7 g8 z0 z1 z2 z3 z4 z5 z6 z7 z8 gz hown
  generalize wr.drewN nq=wa at howna HGa HBa ⊢
  obtain ⟨⟨⟨g0,g1,g2,g3,g4,g5,g6,g7,g8⟩,z0,z1,z2,z3,z4,z5,z6,z7,z8⟩,gz⟩:=obox9 HGa.out
  clear hB
  have k1:((j:Int)+1==(line.size:Int))=false:=by simp only [beq_eq_false_iff_ne];omega
  have k2:(0:Int)<=(j:Int)+1:=by omega
  have k3:((j:Int)+1).toNat=j+1:=by omega
  go_wp2_with fail
  go_quiet (fail)
  have hownb:((wa.drewN nq).ownsRow w.heap.size 5 1 (.slice A2 os.length c2) os.length (bvL os)):=by exact howna
  have HGb:=Lib.hid (show (wa.drewN nq).heap[g]?=_ from HGa.out)
  have HBb:=Lib.hid (below_drewN HBa.out nq)
  clear g0 g1 g2 g3 g4 g5 g6 g7 g8 z0 z1 z2 z3 z4 z5 z6 z7 z8 gz howna
  generalize wa.drewN nq=wb at hownb HGb HBb ⊢
  obtain ⟨⟨⟨g0,g1,g2,g3,g4,g5,g6,g7,g8⟩,z0,z1,z2,z3,z4,z5,z6,z7,z8⟩,gz⟩:=obox9 HGb.out
  go_wp2_with (first
    | (at_builtin;refine wpList_push_own rfl _ _ 93 rfl w.heap.size 5 i0 (.int .u8 0) 1 Tryz.underlying93 hi0 hz0 hz1 hz2 rfl (.slice A2 os.length c2) os.length (bvL os) rfl hownb (.int .u8 (b.toNat:Int)) rfl rfl (by unfold maxLen;omega) (by omega) HBb.out.size ?_;intro A3 c3 w3 hown3 hg3;have HG3:=Lib.hid (tgrown_heap HGb.out hownb hg3 (by decide));have HB3:=Lib.hid (HBb.out.grown hg3 HBb.out.size (town_ge hownb))))
  go_roundw
  case rel=>
   refine ⟨os++[b],A3,c3,j+2,by simp,by go_num,by omega,by simp;omega,?_,HQ2,HG3,HB3.out⟩
   rw [List.length_append,List.length_singleton,<- bvL_snoc]
   exact hown3
  case measure=>simp [intOf];omega
set_option maxHeartbeats 4000000 in
set_option maxRecDepth 100000 in
theorem mark6w_c (f:Fmt) (A:Option Addr) (n cp:Nat) (c:Col) (s:ByteArray) (m0:Int) (w:World) (hs:s.size<=9223372036854775807) (hv:s≠⟨#[]⟩->valOk c s.data.toList=true) (hk:ColK f.mark c) (hm:0<=f.mark/\f.mark<=255) (hq:f.quote=0∨(0<=f.quote/\f.quote<128)) (hw:(wrS f.mark c s).size<=10000) (ht:Tab w) (hM:w.cell? ⟨1,0,none⟩=some (.int .i64 m0)) :
  Calls Tryz.prog 87 #[.agg #[.int .u8 f.mark,.int .u8 f.quote,.slice A n cp,.string f.head,.string f.tail,.string f.count,.string f.sum],colG c,.string s] w (RetS (mrkS f.mark f.quote c s) w):=by
 have HW:=Lib.hid (fun w ht=>written_c f A n cp c s w hs hv hk ht)
 obtain ⟨m,q,ks,hd,tl,ct,sm⟩:=f
 obtain ⟨nm,kd,wi,pl,fm,rt,fl,nd⟩:=c
 unfold colG at HW ⊢
 simp only at HW hm hq hw ⊢
 have hF0:=heap_old (heap_new w (.cells #[.int .u8 m,.int .u8 q,.slice A n cp,.string hd,.string tl,.string ct,.string sm] 44) rfl) (.cells #[.string nm,.int .i64 kd,.int .i64 wi,.int .i64 pl,.int .i64 fm,.bool rt,.int .u8 fl,.bool nd] 91)
 have hC0:=heap_new (w.alloc (.cells #[.int .u8 m,.int .u8 q,.slice A n cp,.string hd,.string tl,.string ct,.string sm] 44)) (.cells #[.string nm,.int .i64 kd,.int .i64 wi,.int .i64 pl,.int .i64 fm,.bool rt,.int .u8 fl,.bool nd] 91) (g:=w.heap.size+1) (by simp)
 have hB0:Below w.heap.size w ((w.alloc (.cells #[.int .u8 m,.int .u8 q,.slice A n cp,.string hd,.string tl,.string ct,.string sm] 44)).alloc (.cells #[.string nm,.int .i64 kd,.int .i64 wi,.int .i64 pl,.int .i64 fm,.bool rt,.int .u8 fl,.bool nd] 91)):=by go_grown
 have HTB:=Lib.hid (ht.below hB0)
 have HM0:=Lib.hid ((hB0.cell (p:=⟨1,0,none⟩) (World.block_lt_of_cell? _ _ hM)).trans hM)
 obtain ⟨RS,hRS⟩:∃ x,mrkS m q ⟨nm,kd,wi,pl,fm,rt,fl,nd⟩ s=x:=⟨_,rfl⟩
 rw [hRS]
 obtain ⟨W,hW⟩:∃ x,wrS m ⟨nm,kd,wi,pl,fm,rt,fl,nd⟩ s=x:=⟨_,rfl⟩
 unfold mrkS at hRS
 rw [hW] at hRS HW hw
 have HRS:=Lib.hid hRS
 clear hRS hW ht hv hk
 go_enter Tryz.func87,Tryz.ntmps87
 obtain ⟨⟨f0,f1,f2,f3,f4,f5,f6⟩,f7⟩:=obox7 hF0
 obtain ⟨⟨x0,x1,x2,x3,x4,x5,x6,x7⟩,x8⟩:=obox8 hC0
 go_wp2_with fail
 refine (HW.out _ HTB.out).mono ?_
 rintro e w1 ⟨rfl,hb1⟩
 have HB1:=Lib.hid (below_then hb1 hB0 hB0.size)
 have hF1:=heap_below hF0 hb1
 have HM1:=Lib.hid ((hb1.cell (p:=⟨1,0,none⟩) (World.block_lt_of_cell? _ _ HM0.out)).trans HM0.out)
 clear f0 f1 f2 f3 f4 f5 f6 f7 x0 x1 x2 x3 x4 x5 x6 x7 x8 hF0 hC0 hb1 hB0 hM
 have hz1:=HB1.out.size
 obtain ⟨⟨f0,f1,f2,f3,f4,f5,f6⟩,f7⟩:=obox7 hF1
 clear hF1
 by_cases h0:q=0
 ·have HX:=Lib.hid (show W=RS by rw [<- HRS.out,if_pos (.inl h0)])
  have k0:(q==0)=true:=by simpa using h0
  clear h0
  go_wp2
  go_ret
  exact ⟨congrArg (fun b=>Ending.returned (Value.string b)) HX.out,HB1.out⟩
 have k0:(q==0)=false:=beq_eq_false_iff_ne.2 h0
 have hqr:0<=q/\q<128:=by rcases hq with h | h;exact absurd h h0;exact h
 have HI1:=Lib.hid (fun w=>ixbyte_c W m w hm)
 have HI2:=Lib.hid (fun w=>ixbyte_c W q w (by omega))
 have henc:=enc_small hqr.1 hqr.2
 obtain ⟨Q,hQ⟩:∃ x,(⟨#[UInt8.ofNat q.toNat]⟩:ByteArray)=x:=⟨_,rfl⟩
 have hQs:Q.size=1:=by rw [<- hQ];rfl
 have HQD:=Lib.hid (show Q.data.toList=[qB q] by rw [<- hQ];rfl)
 obtain ⟨RA,hRA⟩:∃ x,bs (Lib.replaceAll W.data.toList [qB q] [qB q,qB q])=x:=⟨_,rfl⟩
 have HRA:=Lib.hid (show RA.data.toList=Lib.replaceAll W.data.toList [qB q] [qB q,qB q] by rw [<- hRA];rfl)
 have hRs:RA.size<=30000:=by
  have h1:=repA_len W.data.toList (qB q)
  rw [<- HRA.out] at h1
  have h2:RA.data.toList.length=RA.size:=by simp
  have h3:W.data.toList.length=W.size:=by simp
  omega
 have HREP:=Lib.hid (show ∀ w,w.cell? ⟨1,0,none⟩=some (.int .i64 m0)->Calls Tryz.prog 128 #[.string W,.string Q,.string (Q++Q)] w fun e w'=>e=.returned (.string RA)/\Below w.heap.size w w' from fun w hM=>by
  have hc:=Lib.countB_le Q (by omega) W.size W (Nat.le_refl _)
  refine (Tryz.strings_ReplaceAll W Q (Q++Q) m0 w (by omega) hM (by omega) (by rw [ByteArray.size_append,hQs];omega)).mono ?_
  rintro e w' ⟨rfl,hb⟩
  refine ⟨?_,hb⟩
  rw [ByteArray.data_append,Array.toList_append,HQD.out,<- hRA]
  rfl)
 rw [show (⟨#[UInt8.ofNat q.toNat]⟩:ByteArray)=Q from hQ] at henc
 have hcv:∀ w,(convert 5 9 (.int .u8 q)).run Tryz.prog w=.ok (.string Q) w:=fun w=>by rw [<- henc];exact run_convert_int_string _ _ _ _ _ (by kernel_rfl) (by kernel_rfl)
 have hcat1:¬ 9223372036854775807<1+RA.size:=by omega
 have hcat2:¬ 9223372036854775807<1+RA.size+1:=by omega
 clear hQ hRA hq henc
 obtain ⟨I1,hI1⟩:∃ x,Lib.indexByte W.data.toList (UInt8.ofNat m.toNat)=x:=⟨_,rfl⟩
 obtain ⟨I2,hI2⟩:∃ x,Lib.indexByte W.data.toList (UInt8.ofNat q.toNat)=x:=⟨_,rfl⟩
 rw [hI1] at HI1
 rw [hI2] at HI2
 rw [show Lib.indexByte W.data.toList (qB m)=I1 from hI1,show Lib.indexByte W.data.toList (qB q)=I2 from hI2] at HRS
 have HN0:=Lib.hid h0
 clear hI1 hI2 h0 hm hqr
 by_cases h1:I1<0
 ·by_cases h2:I2<0
  ·have HX:=Lib.hid (show W=RS by rw [<- HRS.out,if_pos (.inr ⟨h1,h2⟩)])
   go_wp2_with fail
   refine (HI1.out _).mono ?_
   rintro e w2 ⟨rfl,rfl⟩
   go_wp2_with fail
   refine (HI2.out _).mono ?_
   rintro e w2 ⟨rfl,rfl⟩
   go_wp2
   go_ret
   exact ⟨congrArg (fun b=>Ending.returned (Value.string b)) HX.out,HB1.out⟩
  ·have HX:=Lib.hid (show Q++RA++Q=RS by
    rw [<- HRS.out,if_neg (fun h=>h.elim HN0.out (fun h=>h2 h.2))]
    exact bs_cat _ _ _ _ (by rw [ByteArray.data_append,Array.toList_append,HQD.out,HRA.out]) HQD.out)
   go_wp2_with fail
   refine (HI1.out _).mono ?_
   rintro e w2 ⟨rfl,rfl⟩
   go_wp2_with fail
   refine (HI2.out _).mono ?_
   rintro e w2 ⟨rfl,rfl⟩
   go_wp2_with fail
   refine (HREP.out _ HM1.out).mono ?_
   rintro e w2 ⟨rfl,hb2⟩
   have hB2:=below_then hb2 HB1.out HB1.out.size
   go_wp2
   go_ret
   exact ⟨congrArg (fun b=>Ending.returned (Value.string b)) HX.out,hB2⟩
 ·have HX:=Lib.hid (show Q++RA++Q=RS by
   rw [<- HRS.out,if_neg (fun h=>h.elim HN0.out (fun h=>h1 h.1))]
   exact bs_cat _ _ _ _ (by rw [ByteArray.data_append,Array.toList_append,HQD.out,HRA.out]) HQD.out)
  go_wp2_with fail
  refine (HI1.out _).mono ?_
  rintro e w2 ⟨rfl,rfl⟩
  go_wp2_with fail
  refine (HREP.out _ HM1.out).mono ?_
  rintro e w2 ⟨rfl,hb2⟩
  have hB2:=below_then hb2 HB1.out HB1.out.size
  go_wp2
  go_ret
  exact ⟨congrArg (fun b=>Ending.returned (Value.string b)) HX.out,hB2⟩
end Go.Proofs.YtbfbgappinilmaaGreatDoor
