/- The walks of package order: a line's fault, CheckOrder. The walk of order.CheckOrder. -/
import Derived.Test.YtbfbgappinilmaaGreatDoorTFE
-- merged: TFF TFG
namespace Go.Proofs.YtbfbgappinilmaaGreatDoor
open Go.RowKit Limb Nmb Work
set_option linter.unusedVariables false
set_option linter.unusedSimpArgs false
structure OLf where
 no:Int
 art:ByteArray
 u:Int
 p:Int
 unit:ByteArray
 pu:Int
 pp:Int
 due:Int
def olf0:OLf:=⟨0,⟨#[]⟩,0,0,⟨#[]⟩,0,0,0⟩
def olA (l:List OLf) (j:Nat):OLf:=l.getD j olf0
theorem olA_get {l:List OLf} {j:Nat} (h:j<l.length):l[j]=olA l j:=by simp [olA,List.getD_eq_getElem?_getD,h]
def olV (l:List OLf) (j i:Nat):Value:=match i with | 0=>.int .i64 (olA l j).no | 1=>.string (olA l j).art | 2=>.int .i64 (olA l j).u | 3=>.int .i64 (olA l j).p | 4=>.string (olA l j).unit | 5=>.int .i64 (olA l j).pu | 6=>.int .i64 (olA l j).pp | _=>.int .i64 (olA l j).due
def Lns (w:World) (A:Option Addr) (l:List OLf):Prop:=(∀ j,j<l.length->(olA l j).art.size<=9223372036854775807/\(olA l j).unit.size<=9223372036854775807)/\Rws w A 8 l.length (olV l)
theorem Lns.below {w w':World} {A:Option Addr} {l:List OLf} (h:Lns w A l) (hb:Below w.heap.size w w'):Lns w' A l:=⟨h.1,Rws.below h.2 hb⟩
def ordG (a b c:ByteArray) (day ex:Int) (A:Option Addr) (n cp:Nat):Value:=.agg #[.string a,.string b,.string c,.int .i64 day,.int .i64 ex,.slice A n cp]
theorem obox6o {w:World} {g:Nat} {a b c d e f:Value} {T:TypeId} (h:w.heap[g]?=some (.cells #[a,b,c,d,e,f] T (0,0))) :
  (w.cell? ⟨g,0,none⟩=some a/\w.cell? ⟨g,1,none⟩=some b/\w.cell? ⟨g,2,none⟩=some c/\w.cell? ⟨g,3,none⟩=some d/\w.cell? ⟨g,4,none⟩=some e/\w.cell? ⟨g,5,none⟩=some f)/\g<w.heap.size :=
 ⟨⟨cell_of_row w g 0 _ _ _ h,cell_of_row w g 1 _ _ _ h,cell_of_row w g 2 _ _ _ h,cell_of_row w g 3 _ _ _ h,cell_of_row w g 4 _ _ _ h,cell_of_row w g 5 _ _ _ h⟩,lt_heap h⟩
theorem obox8o {w:World} {g:Nat} {a b c d e f x y:Value} {T:TypeId} (h:w.heap[g]?=some (.cells #[a,b,c,d,e,f,x,y] T (0,0))) :
  (w.cell? ⟨g,0,none⟩=some a/\w.cell? ⟨g,1,none⟩=some b/\w.cell? ⟨g,2,none⟩=some c/\w.cell? ⟨g,3,none⟩=some d/\w.cell? ⟨g,4,none⟩=some e/\w.cell? ⟨g,5,none⟩=some f/\w.cell? ⟨g,6,none⟩=some x/\w.cell? ⟨g,7,none⟩=some y)/\g<w.heap.size :=
 ⟨⟨cell_of_row w g 0 _ _ _ h,cell_of_row w g 1 _ _ _ h,cell_of_row w g 2 _ _ _ h,cell_of_row w g 3 _ _ _ h,cell_of_row w g 4 _ _ _ h,cell_of_row w g 5 _ _ _ h,cell_of_row w g 6 _ _ _ h,cell_of_row w g 7 _ _ _ h⟩,lt_heap h⟩
theorem out_any (n lo hi:Int) (w:World):Calls Tryz.prog 22 #[.int .i64 n,.int .i64 lo,.int .i64 hi] w fun e w'=>∃ b:Bool,e=.returned (.bool b)/\w=w':=by
 by_cases h:lo<=n/\n<=hi
 ·refine (out_no n lo hi w h).mono ?_
  rintro e w' ⟨rfl,rfl⟩
  exact ⟨false,rfl,rfl⟩
 ·refine (out_yes n lo hi w h).mono ?_
  rintro e w' ⟨rfl,rfl⟩
  exact ⟨true,rfl,rfl⟩
def LnO (x:OLf):Prop:=nameB x.art.data.toList=true/\QtyO x.u x.p
set_option maxHeartbeats 4000000 in
set_option maxRecDepth 100000 in
theorem lnfault_c (a b c:ByteArray) (day ex:Int) (A:Option Addr) (n cp:Nat) (l:List OLf) (j:Nat) (w:World) (hl:Lns w A l) (hn:l.length=n) (hj:j<n) (hn2:n<=1000) :
  Calls Tryz.prog 23 #[ordG a b c day ex A n cp,.int .i64 (j:Int)] w (RetFo (LnO (olA l j)) w):=by
 have HL:=Lib.hid hl
 have HN:=Lib.hid hn
 obtain ⟨x,hx⟩:∃ x,olA l j=x:=⟨_,rfl⟩
 have HX:=Lib.hid hx
 have hsz:=hl.1 j (by omega)
 rw [hx] at hsz ⊢
 have HNA:=Lib.hid (fun w=>isname_c x.art w hsz.1)
 have HNU:=Lib.hid (fun w=>isname_c x.unit w hsz.2)
 have HQ:=Lib.hid (qtyfault_c x.u x.p)
 have HP:=Lib.hid (pricefault_c x.pu x.pp)
 have HO:=Lib.hid out_any
 have hb0:Below w.heap.size w (w.alloc (.cells #[.string a,.string b,.string c,.int .i64 day,.int .i64 ex,.slice A n cp] 24)):=(Below.refl _ _).alloc (Nat.le_refl _) _
 have hX0:=heap_new w (.cells #[.string a,.string b,.string c,.int .i64 day,.int .i64 ex,.slice A n cp] 24) rfl
 obtain ⟨bb,off,rfl,hbw,hc⟩:=(Rws.below HL.out.2 hb0).get (show j<l.length by omega)
 have c0:=hc 0 (by decide);have c1:=hc 1 (by decide);have c2:=hc 2 (by decide);have c3:=hc 3 (by decide);have c4:=hc 4 (by decide);have c5:=hc 5 (by decide);have c6:=hc 6 (by decide);have c7:=hc 7 (by decide)
 simp only [olV,Nat.add_zero,hx] at c0 c1 c2 c3 c4 c5 c6 c7
 have HPV:=Lib.hid (show ∀ wx,Below w.heap.size w wx->0<j->∃ y:Int,wx.cell? ⟨bb,off+(j-1)*8,none⟩=some (.int .i64 y) from fun wx hb h=>by
  obtain ⟨b',off',e,_,hc'⟩:=(Rws.below HL.out.2 hb).get (j:=j-1) (by omega)
  cases e
  exact ⟨_,hc' 0 (by decide)⟩)
 have hjn:(j:Int)<(n:Int):=by omega
 have hj0:(0:Int)<=(j:Int):=by omega
 obtain ⟨⟨d0,d1,d2,d3,d4,d5⟩,-⟩:=obox6o hX0
 have HX0:=Lib.hid hX0
 have HB0:=Lib.hid hb0
 obtain ⟨no,art,u,p,un,pu,pp,due⟩:=x
 dsimp only at c0 c1 c2 c3 c4 c5 c6 c7 HNA HNU HQ HP
 unfold ordG
 clear hl hn hx hsz hc hX0 hb0
 go_enter Tryz.func23,Tryz.ntmps23
 go_upto_region 2 with fail
 obtain ⟨w0,hw0⟩:∃ w0,w.alloc (.cells #[.string a,.string b,.string c,.int .i64 day,.int .i64 ex,.slice (some ⟨bb,off,none⟩) n cp] 24)=w0:=⟨_,rfl⟩
 have hs0:w0.heap.size=w.heap.size+1:=by rw [<- hw0];simp
 rw [hw0] at HX0 HB0
 have HX1:=Lib.hid (heap_new w0 (.cells #[.int .i64 no,.string art,.int .i64 u,.int .i64 p,.string un,.int .i64 pu,.int .i64 pp,.int .i64 due] 33) rfl)
 have HY1:=Lib.hid (heap_old HX0.out (.cells #[.int .i64 no,.string art,.int .i64 u,.int .i64 p,.string un,.int .i64 pu,.int .i64 pp,.int .i64 due] 33))
 have HB1:=Lib.hid (HB0.out.alloc HB0.out.size (.cells #[.int .i64 no,.string art,.int .i64 u,.int .i64 p,.string un,.int .i64 pu,.int .i64 pp,.int .i64 due] 33))
 rw [hs0] at HX1
 try rw [hw0]
 generalize w0.alloc (.cells #[.int .i64 no,.string art,.int .i64 u,.int .i64 p,.string un,.int .i64 pu,.int .i64 pp,.int .i64 due] 33)=w1 at HX1 HY1 HB1 ⊢
 clear hw0 hs0 HX0 HB0 c0 c1 c2 c3 c4 c5 c6 c7 d0 d1 d2 d3 d4 d5
 have hX1:=HX1.out
 have hY1:=HY1.out
 obtain ⟨⟨x0,x1,x2,x3,x4,x5,x6,x7⟩,-⟩:=obox8o hX1
 obtain ⟨⟨y0,y1,y2,y3,y4,y5⟩,-⟩:=obox6o hY1
 clear hX1 hY1
 go_wp2_with fail
 refine (HO.out _ _ _ w1).mono ?_
 rintro e w2 ⟨b1,rfl,rfl⟩
 cases b1 with
 | true=>
  go_wp2
  go_ret
  exact RetFo.no (by decide) HB1.out
 | false=>
 cases j with
 | zero=>
  go_wp2
  go_quiet (fail)
  -- the rest
  have HX3:=Lib.hid (show (w1.drewN nq).heap[w.heap.size+1]?=_ from HX1.out)
  have HY3:=Lib.hid (show (w1.drewN nq).heap[w.heap.size]?=_ from HY1.out)
  have HB3:=Lib.hid (show Below w.heap.size w (w1.drewN nq) from below_drewN HB1.out _)
  have hX3:=HX3.out
  have hY3:=HY3.out
  obtain ⟨⟨k0,k1,k2,k3,k4,k5,k6,k7⟩,-⟩:=obox8o hX3
  obtain ⟨⟨l0,l1,l2,l3,l4,l5⟩,-⟩:=obox6o hY3
  clear hX3 hY3 x0 x1 x2 x3 x4 x5 x6 x7 y0 y1 y2 y3 y4 y5
  generalize (w1.drewN nq)=w3 at HX3 HY3 HB3 k0 k1 k2 k3 k4 k5 k6 k7 l0 l1 l2 l3 l4 l5 ⊢
  go_wp2_with fail
  cases hna:nameB art.data.toList
  ·have HNA2:=Lib.hid (HNA.out w3)
   rw [hna] at HNA2
   clear hna
   refine HNA2.out.mono ?_
   rintro e w4 ⟨rfl,hb4⟩
   have HB4:=Lib.hid (below_then hb4 HB3.out HB3.out.size)
   clear hb4
   go_wp2
   go_ret
   exact RetFo.no (by decide) HB4.out
  have HNA2:=Lib.hid (HNA.out w3)
  rw [hna] at HNA2
  have HNY:=Lib.hid hna
  clear hna
  refine HNA2.out.mono ?_
  rintro e w4 ⟨rfl,hb4⟩
  have HX4:=Lib.hid (heap_below HX3.out hb4)
  have HY4:=Lib.hid (heap_below HY3.out hb4)
  have HB4:=Lib.hid (below_then hb4 HB3.out HB3.out.size)
  clear hb4 HNA2 k0 k1 k2 k3 k4 k5 k6 k7 l0 l1 l2 l3 l4 l5
  have hX4:=HX4.out
  obtain ⟨⟨k0,k1,k2,k3,k4,k5,k6,k7⟩,-⟩:=obox8o hX4
  clear hX4
  go_wp2_with fail
  refine (HQ.out w4).mono ?_
  rintro e w5 ⟨f,rfl,hf,hb5⟩
  have HX5:=Lib.hid (heap_below HX4.out hb5)
  have HY5:=Lib.hid (heap_below HY4.out hb5)
  have HB5:=Lib.hid (below_then hb5 HB4.out HB4.out.size)
  clear hb5 k0 k1 k2 k3 k4 k5 k6 k7
  by_cases hf0:f=0
  case neg=>
   have hf1:(f==0)=false:=by simpa using hf0
   have HF1:=Lib.hid hf0
   clear hf hf0
   go_wp2
   go_ret
   exact RetFo.no HF1.out HB5.out
  have HQY:=Lib.hid (hf hf0)
  subst hf0
  clear hf
  have hX5:=HX5.out
  obtain ⟨⟨k0,k1,k2,k3,k4,k5,k6,k7⟩,-⟩:=obox8o hX5
  clear hX5
  go_wp2_with fail
  cases hnu:nameB un.data.toList
  ·have HNU2:=Lib.hid (HNU.out w5)
   rw [hnu] at HNU2
   clear hnu
   refine HNU2.out.mono ?_
   rintro e w6 ⟨rfl,hb6⟩
   have HB6:=Lib.hid (below_then hb6 HB5.out HB5.out.size)
   clear hb6
   go_wp2
   go_ret
   exact RetFo.no (by decide) HB6.out
  have HNU2:=Lib.hid (HNU.out w5)
  rw [hnu] at HNU2
  clear hnu
  refine HNU2.out.mono ?_
  rintro e w6 ⟨rfl,hb6⟩
  have HX6:=Lib.hid (heap_below HX5.out hb6)
  have HY6:=Lib.hid (heap_below HY5.out hb6)
  have HB6:=Lib.hid (below_then hb6 HB5.out HB5.out.size)
  clear hb6 HNU2 k0 k1 k2 k3 k4 k5 k6 k7
  have hX6:=HX6.out
  obtain ⟨⟨k0,k1,k2,k3,k4,k5,k6,k7⟩,-⟩:=obox8o hX6
  clear hX6
  go_wp2_with fail
  refine (HP.out w6).mono ?_
  rintro e w7 ⟨f,rfl,-,hb7⟩
  have HX7:=Lib.hid (heap_below HX6.out hb7)
  have HY7:=Lib.hid (heap_below HY6.out hb7)
  have HB7:=Lib.hid (below_then hb7 HB6.out HB6.out.size)
  clear hb7 k0 k1 k2 k3 k4 k5 k6 k7
  by_cases hf0:f=0
  case neg=>
   have hf1:(f==0)=false:=by simpa using hf0
   have HF1:=Lib.hid hf0
   clear hf0
   go_wp2
   go_ret
   exact RetFo.no HF1.out HB7.out
  subst hf0
  have hX7:=HX7.out
  obtain ⟨⟨k0,k1,k2,k3,k4,k5,k6,k7⟩,-⟩:=obox8o hX7
  have hY7:=HY7.out
  obtain ⟨⟨l0,l1,l2,l3,l4,l5⟩,-⟩:=obox6o hY7
  clear hX7 hY7
  go_wp2_with fail
  refine (HO.out _ _ _ w7).mono ?_
  rintro e w8 ⟨b8,rfl,rfl⟩
  cases b8 with
  | true=>
   go_wp2
   go_ret
   exact RetFo.no (by decide) HB7.out
  | false=>
   go_wp2
   go_ret
   exact RetFo.yes ⟨HNY.out,HQY.out⟩ HB7.out
 | succ i=>
  obtain ⟨v,hv⟩:=HPV.out w1 HB1.out (Nat.succ_pos i)
  rw [Nat.add_sub_cancel] at hv
  have hi0:(0:Int)<((i+1:Nat):Int):=by omega
  by_cases hle:no<=v
  ·have hd:=decide_eq_true hle
   clear hle
   go_wp2
   go_quiet (fail)
   go_wp2
   go_ret
   exact RetFo.no (by decide) (below_drewN HB1.out _)
  ·have hd:=decide_eq_false hle
   clear hle
   go_wp2
   go_quiet (fail)
   -- the rest
   have HX3:=Lib.hid (show (w1.drewN nq).heap[w.heap.size+1]?=_ from HX1.out)
   have HY3:=Lib.hid (show (w1.drewN nq).heap[w.heap.size]?=_ from HY1.out)
   have HB3:=Lib.hid (show Below w.heap.size w (w1.drewN nq) from below_drewN HB1.out _)
   have hX3:=HX3.out
   have hY3:=HY3.out
   obtain ⟨⟨k0,k1,k2,k3,k4,k5,k6,k7⟩,-⟩:=obox8o hX3
   obtain ⟨⟨l0,l1,l2,l3,l4,l5⟩,-⟩:=obox6o hY3
   clear hX3 hY3 x0 x1 x2 x3 x4 x5 x6 x7 y0 y1 y2 y3 y4 y5
   generalize (w1.drewN nq)=w3 at HX3 HY3 HB3 k0 k1 k2 k3 k4 k5 k6 k7 l0 l1 l2 l3 l4 l5 ⊢
   go_wp2_with fail
   cases hna:nameB art.data.toList
   ·have HNA2:=Lib.hid (HNA.out w3)
    rw [hna] at HNA2
    clear hna
    refine HNA2.out.mono ?_
    rintro e w4 ⟨rfl,hb4⟩
    have HB4:=Lib.hid (below_then hb4 HB3.out HB3.out.size)
    clear hb4
    go_wp2
    go_ret
    exact RetFo.no (by decide) HB4.out
   have HNA2:=Lib.hid (HNA.out w3)
   rw [hna] at HNA2
   have HNY:=Lib.hid hna
   clear hna
   refine HNA2.out.mono ?_
   rintro e w4 ⟨rfl,hb4⟩
   have HX4:=Lib.hid (heap_below HX3.out hb4)
   have HY4:=Lib.hid (heap_below HY3.out hb4)
   have HB4:=Lib.hid (below_then hb4 HB3.out HB3.out.size)
   clear hb4 HNA2 k0 k1 k2 k3 k4 k5 k6 k7 l0 l1 l2 l3 l4 l5
   have hX4:=HX4.out
   obtain ⟨⟨k0,k1,k2,k3,k4,k5,k6,k7⟩,-⟩:=obox8o hX4
   clear hX4
   go_wp2_with fail
   refine (HQ.out w4).mono ?_
   rintro e w5 ⟨f,rfl,hf,hb5⟩
   have HX5:=Lib.hid (heap_below HX4.out hb5)
   have HY5:=Lib.hid (heap_below HY4.out hb5)
   have HB5:=Lib.hid (below_then hb5 HB4.out HB4.out.size)
   clear hb5 k0 k1 k2 k3 k4 k5 k6 k7
   by_cases hf0:f=0
   case neg=>
    have hf1:(f==0)=false:=by simpa using hf0
    have HF1:=Lib.hid hf0
    clear hf hf0
    go_wp2
    go_ret
    exact RetFo.no HF1.out HB5.out
   have HQY:=Lib.hid (hf hf0)
   subst hf0
   clear hf
   have hX5:=HX5.out
   obtain ⟨⟨k0,k1,k2,k3,k4,k5,k6,k7⟩,-⟩:=obox8o hX5
   clear hX5
   go_wp2_with fail
   cases hnu:nameB un.data.toList
   ·have HNU2:=Lib.hid (HNU.out w5)
    rw [hnu] at HNU2
    clear hnu
    refine HNU2.out.mono ?_
    rintro e w6 ⟨rfl,hb6⟩
    have HB6:=Lib.hid (below_then hb6 HB5.out HB5.out.size)
    clear hb6
    go_wp2
    go_ret
    exact RetFo.no (by decide) HB6.out
   have HNU2:=Lib.hid (HNU.out w5)
   rw [hnu] at HNU2
   clear hnu
   refine HNU2.out.mono ?_
   rintro e w6 ⟨rfl,hb6⟩
   have HX6:=Lib.hid (heap_below HX5.out hb6)
   have HY6:=Lib.hid (heap_below HY5.out hb6)
   have HB6:=Lib.hid (below_then hb6 HB5.out HB5.out.size)
   clear hb6 HNU2 k0 k1 k2 k3 k4 k5 k6 k7
   have hX6:=HX6.out
   obtain ⟨⟨k0,k1,k2,k3,k4,k5,k6,k7⟩,-⟩:=obox8o hX6
   clear hX6
   go_wp2_with fail
   refine (HP.out w6).mono ?_
   rintro e w7 ⟨f,rfl,-,hb7⟩
   have HX7:=Lib.hid (heap_below HX6.out hb7)
   have HY7:=Lib.hid (heap_below HY6.out hb7)
   have HB7:=Lib.hid (below_then hb7 HB6.out HB6.out.size)
   clear hb7 k0 k1 k2 k3 k4 k5 k6 k7
   by_cases hf0:f=0
   case neg=>
    have hf1:(f==0)=false:=by simpa using hf0
    have HF1:=Lib.hid hf0
    clear hf0
    go_wp2
    go_ret
    exact RetFo.no HF1.out HB7.out
   subst hf0
   have hX7:=HX7.out
   obtain ⟨⟨k0,k1,k2,k3,k4,k5,k6,k7⟩,-⟩:=obox8o hX7
   have hY7:=HY7.out
   obtain ⟨⟨l0,l1,l2,l3,l4,l5⟩,-⟩:=obox6o hY7
   clear hX7 hY7
   go_wp2_with fail
   refine (HO.out _ _ _ w7).mono ?_
   rintro e w8 ⟨b8,rfl,rfl⟩
   cases b8 with
   | true=>
    go_wp2
    go_ret
    exact RetFo.no (by decide) HB7.out
   | false=>
    go_wp2
    go_ret
    exact RetFo.yes ⟨HNY.out,HQY.out⟩ HB7.out
def OrdO (l:List OLf):Prop:=0<l.length/\l.length<=500/\∀ j,j<l.length->LnO (olA l j)
theorem isday_any (n:Int) (w:World):Calls Tryz.prog 21 #[.int .i64 n] w fun e w'=>∃ b:Bool,e=.returned (.bool b)/\w=w':=by
 refine (isday_c n w).mono ?_
 rintro e w' ⟨rfl,rfl⟩
 exact ⟨_,rfl,rfl⟩
set_option maxHeartbeats 4000000 in
set_option maxRecDepth 100000 in
theorem chkord_c (a b c:ByteArray) (day ex:Int) (A:Option Addr) (cp:Nat) (l:List OLf) (w:World) (hl:Lns w A l) (hn9:l.length<=9223372036854775807) (sa:a.size<=9223372036854775807) (sb:b.size<=9223372036854775807) (sc:c.size<=9223372036854775807) :
  Calls Tryz.prog 4 #[ordG a b c day ex A l.length cp] w (RetFo (OrdO l) w):=by
 have HL:=Lib.hid hl
 obtain ⟨n,hn⟩:∃ n,l.length=n:=⟨_,rfl⟩
 have HN:=Lib.hid hn
 have HNA:=Lib.hid (fun w=>isname_c a w sa)
 have HNB:=Lib.hid (fun w=>isname_c b w sb)
 have HNC:=Lib.hid (fun w=>isname_c c w sc)
 have HO:=Lib.hid out_any
 have HDY:=Lib.hid isday_any
 have HLF:=Lib.hid (fun j (hj:j<n) (h5:n<=500) w' (hb:Below w.heap.size w w')=>lnfault_c a b c day ex A n cp l j w' (hl.below hb) hn hj (by omega))
 have hb0:=Lib.hid (show Below w.heap.size w (w.alloc (.cells #[.string a,.string b,.string c,.int .i64 day,.int .i64 ex,.slice A n cp] 24)) from (Below.refl _ _).alloc (Nat.le_refl _) _)
 have hX0:=Lib.hid (heap_new w (.cells #[.string a,.string b,.string c,.int .i64 day,.int .i64 ex,.slice A n cp] 24) rfl)
 rw [hn] at hn9 ⊢
 unfold ordG at HLF ⊢
 clear hl hn sa sb sc
 go_enter Tryz.func4,Tryz.ntmps4
 go_upto_region 1 with fail
 generalize w.alloc (.cells #[.string a,.string b,.string c,.int .i64 day,.int .i64 ex,.slice A n cp] 24)=w0 at hb0 hX0 ⊢
 have hX:=hX0.out
 obtain ⟨⟨x0,x1,x2,x3,x4,x5⟩,-⟩:=obox6o hX
 clear hX
 go_wp2_with fail
 cases hna:nameB a.data.toList
 ·have HNA2:=Lib.hid (HNA.out w0)
  rw [hna] at HNA2
  clear hna
  refine HNA2.out.mono ?_
  rintro e w4 ⟨rfl,hb4⟩
  have HB4:=Lib.hid (below_then hb4 hb0.out hb0.out.size)
  clear hb4
  go_wp2
  go_ret
  exact RetFo.no (by decide) HB4.out
 have HNA2:=Lib.hid (HNA.out w0)
 rw [hna] at HNA2
 clear hna
 refine HNA2.out.mono ?_
 rintro e w1 ⟨rfl,hb1⟩
 have HX1:=Lib.hid (heap_below hX0.out hb1)
 have HB1:=Lib.hid (below_then hb1 hb0.out hb0.out.size)
 clear hb1 HNA2 x0 x1 x2 x3 x4 x5
 have hX:=HX1.out
 obtain ⟨⟨x0,x1,x2,x3,x4,x5⟩,-⟩:=obox6o hX
 clear hX
 go_wp2_with fail
 cases hna:nameB b.data.toList
 ·have HNA2:=Lib.hid (HNB.out w1)
  rw [hna] at HNA2
  clear hna
  refine HNA2.out.mono ?_
  rintro e w4 ⟨rfl,hb4⟩
  have HB4:=Lib.hid (below_then hb4 HB1.out HB1.out.size)
  clear hb4
  go_wp2
  go_ret
  exact RetFo.no (by decide) HB4.out
 have HNA2:=Lib.hid (HNB.out w1)
 rw [hna] at HNA2
 clear hna
 refine HNA2.out.mono ?_
 rintro e w2 ⟨rfl,hb2⟩
 have HX2:=Lib.hid (heap_below HX1.out hb2)
 have HB2:=Lib.hid (below_then hb2 HB1.out HB1.out.size)
 clear hb2 HNA2 x0 x1 x2 x3 x4 x5
 have hX:=HX2.out
 obtain ⟨⟨x0,x1,x2,x3,x4,x5⟩,-⟩:=obox6o hX
 clear hX
 go_wp2_with fail
 cases hna:nameB c.data.toList
 ·have HNA2:=Lib.hid (HNC.out w2)
  rw [hna] at HNA2
  clear hna
  refine HNA2.out.mono ?_
  rintro e w4 ⟨rfl,hb4⟩
  have HB4:=Lib.hid (below_then hb4 HB2.out HB2.out.size)
  clear hb4
  go_wp2
  go_ret
  exact RetFo.no (by decide) HB4.out
 have HNA2:=Lib.hid (HNC.out w2)
 rw [hna] at HNA2
 clear hna
 refine HNA2.out.mono ?_
 rintro e w3 ⟨rfl,hb3⟩
 have HX3:=Lib.hid (heap_below HX2.out hb3)
 have HB3:=Lib.hid (below_then hb3 HB2.out HB2.out.size)
 clear hb3 HNA2 x0 x1 x2 x3 x4 x5
 have hX:=HX3.out
 obtain ⟨⟨x0,x1,x2,x3,x4,x5⟩,-⟩:=obox6o hX
 clear hX
 cases hbc:(b.toList==c.toList) with
 | true=>
  go_wp2
  go_ret
  exact RetFo.no (by decide) HB3.out
 | false=>
 go_wp2_with fail
 refine (HDY.out _ w3).mono ?_
 rintro e w4 ⟨b1,rfl,rfl⟩
 cases b1 with
 | false=>
  go_wp2
  go_ret
  exact RetFo.no (by decide) HB3.out
 | true=>
 go_wp2_with fail
 refine (HO.out _ _ _ w3).mono ?_
 rintro e w4 ⟨b1,rfl,rfl⟩
 cases b1 with
 | true=>
  go_wp2
  go_ret
  exact RetFo.no (by decide) HB3.out
 | false=>
 by_cases hn0:n=0
 ·have hn1:((n:Int)==0)=true:=by subst hn0;rfl
  clear hn0
  go_wp2
  go_ret
  exact RetFo.no (by decide) HB3.out
 have hn1 : ((n : Int) == 0) = false := by have : ¬ (n : Int) = 0 := by omega
                                           simpa using this
 by_cases hn5:500<n
 ·have hn2:(500:Int)<(n:Int):=by omega
  clear hn5
  go_wp2
  go_ret
  exact RetFo.no (by decide) HB3.out
 have hn2:¬ (500:Int)<(n:Int):=by omega
 have hn3:n<=500:=by omega
 clear hn5
 go_upto_region 11 with fail
 clear hbc
 go_wp2
 go_loopw [51] (fun i wr=>∃ k:Nat,k<=n/\i=.int .i64 (k:Int)/\Hid (wr.heap[w.heap.size]?=some (.cells #[.string a,.string b,.string c,.int .i64 day,.int .i64 ex,.slice A n cp] 24 (0,0)))/\Hid (Below w.heap.size w wr)/\Hid (∀ j,j<k->LnO (olA l j))) (fun i _=>n-(intOf i).toNat)
 case atStart=>exact ⟨0,Nat.zero_le _,rfl,HX3,HB3,Lib.hid (fun j h=>absurd h (Nat.not_lt_zero _))⟩
 case round=>
  obtain ⟨k,hk,rfl,HX,HB,HK⟩:=hrel
  rcases Nat.lt_or_ge k n with hlt | hge
  ·have hX:=HX.out
   obtain ⟨⟨z0,z1,z2,z3,z4,z5⟩,-⟩:=obox6o hX
   clear hX
   have HC:=Lib.hid (HLF.out k hlt hn3 wr HB.out)
   go_wp2_with fail
   refine HC.out.mono ?_
   rintro e w5 ⟨f,rfl,hf,hb5⟩
   have HX5:=Lib.hid (heap_below HX.out hb5)
   have HB5:=Lib.hid (below_then hb5 HB.out HB.out.size)
   clear hb5
   by_cases hf0:f=0
   case neg=>
    have hf1:(f==0)=false:=by simpa using hf0
    have HF1:=Lib.hid hf0
    clear hf hf0
    go_wp2
    go_ret
    exact RetFo.no HF1.out HB5.out
   have HK2:=Lib.hid (show ∀ j,j<k+1->LnO (olA l j) from fun j hj=>by
    rcases Nat.lt_or_ge j k with h | h
    ·exact HK.out j h
    ·obtain rfl:j=k:=by omega
     exact hf hf0)
   subst hf0
   clear hf
   go_wp2
   go_roundw
   case rel=>exact ⟨k+1,by omega,by go_num,HX5,HB5,HK2⟩
   case measure=>simp [intOf];omega
  ·obtain rfl:k=n:=by omega
   go_wp2
   go_ret
   exact RetFo.yes ⟨by rw [HN.out];omega,by rw [HN.out];exact hn3,fun j hj=>HK.out j (by rw [<- HN.out];exact hj)⟩ HB.out
end Go.Proofs.YtbfbgappinilmaaGreatDoor
