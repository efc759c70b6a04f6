
/- Words for the join of a walk and a row: an order opened, with its lines. -/
import Derived.Test.YtbfbgappinilmaaGreatDoorJ7
namespace Go.Proofs.YtbfbgappinilmaaGreatDoor
open Go.ChangeShapes Go.WideShapes Go.ChangeAt Go.RowKit Go.Deep Go.Joins
set_option linter.unusedVariables false
set_option linter.unusedSimpArgs false
theorem cells1:Tryz.prog.cellsOf 3=1:=by kernel_rfl
theorem cells9:Tryz.prog.cellsOf 9=1:=by kernel_rfl
theorem cellsD:Tryz.prog.cellsOf 31=2:=by kernel_rfl
theorem opened_dec {H:Type} {enc:TypeId×Value->H} {w:World} {base fuel:Nat} {spare:Nat->Bool} {held:Bool} {a b:Value} {y:DataW H×List MemPlace}
  (h:DataW.trod enc Tryz.prog w base spare held fuel 31 [a,b]=some y):∃ u p:Int,a=.int .i64 u/\b=.int .i64 p:=by
 obtain ⟨y0,y1,n,-,-,h0,h1⟩:=trod_struct2 Tryz.underlying31 h
 rw [cells1] at h0 h1
 obtain ⟨k0,e0,-,-⟩:=DataW.trod_int Tryz.underlying3 h0
 obtain ⟨k1,e1,-,-⟩:=DataW.trod_int Tryz.underlying3 h1
 simp at e0 e1
 exact ⟨k0,k1,e0,e1⟩
set_option maxRecDepth 100000 in
theorem opened_line {H:Type} {enc:TypeId×Value->H} {w:World} {base fuel:Nat} {spare:Nat->Bool} {held:Bool} {cs:List Value} {y:DataW H×List MemPlace}
  (h:DataW.trod enc Tryz.prog w base spare held fuel 33 cs=some y) :
  ∃ z:OLf,cs=[.int .i64 z.no,.string z.art,.int .i64 z.u,.int .i64 z.p,.string z.unit,.int .i64 z.pu,.int .i64 z.pp,.int .i64 z.due]/\z.art.size<=9223372036854775807/\z.unit.size<=9223372036854775807:=by
 obtain ⟨ys,n,-,-,hlen,hyl,hf⟩:=DataW.trod_struct Tryz.underlying33 h
 have hl:cs.length=8:=hlen.trans (by kernel_rfl)
 have hy:ys.length=6:=hyl
 have f0:DataW.trod enc Tryz.prog w base spare held n 3 ((cs.drop 0).take (Tryz.prog.cellsOf 3))=ys[0]?:=hf 0 _ rfl
 have f1:DataW.trod enc Tryz.prog w base spare held n 9 ((cs.drop 1).take (Tryz.prog.cellsOf 9))=ys[1]?:=hf 1 _ rfl
 have f2:DataW.trod enc Tryz.prog w base spare held n 31 ((cs.drop 2).take (Tryz.prog.cellsOf 31))=ys[2]?:=hf 2 _ rfl
 have f3:DataW.trod enc Tryz.prog w base spare held n 9 ((cs.drop 4).take (Tryz.prog.cellsOf 9))=ys[3]?:=hf 3 _ rfl
 have f4:DataW.trod enc Tryz.prog w base spare held n 31 ((cs.drop 5).take (Tryz.prog.cellsOf 31))=ys[4]?:=hf 4 _ rfl
 have f5:DataW.trod enc Tryz.prog w base spare held n 3 ((cs.drop 7).take (Tryz.prog.cellsOf 3))=ys[5]?:=hf 5 _ rfl
 clear hf h hlen hyl
 match cs,hl,ys,hy with
 | [b0,b1,b2,b3,b4,b5,b6,b7],_,[y0,y1,y2,y3,y4,y5],_=>
  rw [cells1] at f0 f5
  rw [cells9] at f1 f3
  rw [cellsD] at f2 f4
  obtain ⟨k0,e0,-,-⟩:=DataW.trod_int Tryz.underlying3 f0
  obtain ⟨k1,e1,-,w1⟩:=DataW.trod_string Tryz.underlying9 f1
  obtain ⟨u,p,rfl,rfl⟩:=opened_dec f2
  obtain ⟨k3,e3,-,w3⟩:=DataW.trod_string Tryz.underlying9 f3
  obtain ⟨pu,pp,rfl,rfl⟩:=opened_dec f4
  obtain ⟨k5,e5,-,-⟩:=DataW.trod_int Tryz.underlying3 f5
  simp at e0 e1 e3 e5
  subst e0 e1 e3 e5
  unfold maxLen at w1 w3
  exact ⟨⟨k0,k1,u,p,k3,pu,pp,k5⟩,rfl,w1,w3⟩
set_option maxRecDepth 100000 in
theorem opened_lines {H:Type} {enc:TypeId×Value->H} {w:World} {base fuel:Nat} {v:Value} {y:DataW H×List MemPlace}
  (h:DataW.trod enc Tryz.prog w base (fun _=>true) true fuel 22 [v]=some y):∃ A cap ls,v=.slice A ls.length cap/\ls.length<=9223372036854775807/\Lns w A ls:=by
 rcases open_slice Tryz.underlying22 h with ⟨hcs,-⟩|⟨a,len,cap,m,n,D,Pl,hcs,hb,hl,hm,hmm,-,hi⟩
 ·simp at hcs
  subst hcs
  exact ⟨none,0,[],rfl,by decide,fun j hj=>absurd hj (Nat.not_lt_zero _),fun h=>absurd h (Nat.not_lt_zero _)⟩
 ·simp at hcs
  subst hcs
  simp only [if_true] at hmm
  subst hmm
  obtain ⟨b,off,spot⟩:=a
  have h0:∀ i,i<m->∃ z:OLf,(∀ k,k<8->w.cell? ((⟨b,off,spot⟩:Addr).add (i*8+k))=some (olV [z] 0 k))/\z.art.size<=9223372036854775807/\z.unit.size<=9223372036854775807:=by
   intro i him
   obtain ⟨cs',hc,ht⟩:=hi i him
   rw [show Tryz.prog.cellsOf 33=8 by kernel_rfl] at hc
   obtain ⟨z,rfl,z1,z2⟩:=opened_line ht
   obtain ⟨-,-,hat⟩:=World.cells?_some hc
   refine ⟨z,fun k hk=>?_,z1,z2⟩
   have h1:=hat k hk
   rw [Go.Deep.add_add] at h1
   rw [h1]
   match k,hk with
   | 0,_=>rfl
   | 1,_=>rfl
   | 2,_=>rfl
   | 3,_=>rfl
   | 4,_=>rfl
   | 5,_=>rfl
   | 6,_=>rfl
   | 7,_=>rfl
  obtain ⟨F,hF⟩:=choose_ltF olf0 h0
  have hk:∀ j,j<len->olA ((List.range len).map F) j=F j:=fun j hj=>by simp [olA,List.getD_eq_getElem?_getD,hj]
  refine ⟨some ⟨b,off,spot⟩,m,(List.range len).map F,by simp,by simp;unfold maxLen at hm;omega,fun j hj=>?_,fun hn=>?_⟩
  ·have hj':j<len:=by simpa using hj
   rw [hk j hj']
   exact (hF j (by omega)).2
  ·have hn':0<len:=by simpa using hn
   have hs:spot=none:=by
    have h1:=(hF 0 (by omega)).1 0 (by decide)
    have:=World.cell?_spot h1
    rw [Addr.add,if_pos (by simp)] at this
    exact this
   subst hs
   have hadd:∀ k,(⟨b,off,none⟩:Addr).add k=⟨b,off+k,none⟩:=by intro k;unfold Addr.add;split<;>simp_all
   refine ⟨b,off,rfl,?_,fun j hj i hi=>?_⟩
   ·have:=(hF 0 (by omega)).1 0 (by decide)
    rw [hadd] at this
    exact World.block_lt_of_cell? w _ this
   ·have hj':j<len:=by simpa using hj
    have h1:=(hF j (by omega)).1 i hi
    rw [hadd] at h1
    rw [Nat.add_assoc,h1]
    unfold olV
    rw [hk j hj']
    rfl
set_option maxRecDepth 100000 in
theorem opened_order {H:Type} {enc:TypeId×Value->H} {w:World} {r:Reach} {b0 base:Nat} {v:Value} {d:DataW H} {p:List MemPlace}
  (hv:Value.okWide Tryz.prog w r b0 24 v) (h:DataW.Trod enc Tryz.prog w base (fun _=>true) true 24 v d p) :
  ∃ (a b c:ByteArray) (day ex:Int) (A:Option Addr) (cp:Nat) (ls:List OLf),v=ordG a b c day ex A ls.length cp/\Lns w A ls/\ls.length<=9223372036854775807/\a.size<=9223372036854775807/\b.size<=9223372036854775807/\c.size<=9223372036854775807:=by
 obtain ⟨cs,n,rfl,hl,hg⟩:=open_structF Tryz.underlying24 (by kernel_rfl) (by kernel_rfl) hv h
 obtain ⟨c0,y0,e0,t0⟩:=hg 0 _ rfl
 obtain ⟨c1,y1,e1,t1⟩:=hg 1 _ rfl
 obtain ⟨c2,y2,e2,t2⟩:=hg 2 _ rfl
 obtain ⟨c3,y3,e3,t3⟩:=hg 3 _ rfl
 obtain ⟨c4,y4,e4,t4⟩:=hg 4 _ rfl
 obtain ⟨c5,y5,e5,t5⟩:=hg 5 _ rfl
 match cs,hl with
 | [a0,a1,a2,a3,a4,a5],_=>
  simp at e0 e1 e2 e3 e4 e5
  subst e0 e1 e2 e3 e4 e5
  obtain ⟨k0,z0,-,w0⟩:=DataW.trod_string Tryz.underlying9 t0
  obtain ⟨k1,z1,-,w1⟩:=DataW.trod_string Tryz.underlying9 t1
  obtain ⟨k2,z2,-,w2⟩:=DataW.trod_string Tryz.underlying9 t2
  obtain ⟨k3,z3,-,-⟩:=DataW.trod_int Tryz.underlying3 t3
  obtain ⟨k4,z4,-,-⟩:=DataW.trod_int Tryz.underlying3 t4
  obtain ⟨A,cap,ls,rfl,hn,hL⟩:=opened_lines t5
  simp at z0 z1 z2 z3 z4
  subst z0 z1 z2 z3 z4
  unfold maxLen at w0 w1 w2
  exact ⟨k0,k1,k2,k3,k4,A,cap,ls,rfl,hL,hn,w0,w1,w2⟩
end Go.Proofs.YtbfbgappinilmaaGreatDoor
