/- The walks of kindAt and columnAt, and of the tests that hold a closure. Plain facts on working days: a search, a count, and the two ways of counting. -/
import Derived.Test.YtbfbgappinilmaaGreatDoorF1
import Derived.Deep.QuietTactic
import Derived.BigQuiet
import Derived.Laws.ShiftsVar
import Derived.Laws.ShiftsVarLaws
import Derived.Test.YtbfbgappinilmaaGreatDoorU2
import Derived.IntWalk
-- merged: F2 D0 D1 E1 E2
namespace Go.Proofs.YtbfbgappinilmaaGreatDoor
open Go.RowKit Limb Nmb
set_option linter.unusedVariables false
set_option linter.unusedSimpArgs false
theorem bytes_dec (a b:ByteArray):(a.toList==b.toList)=decide (a=b):=by
 by_cases h:a=b
 ·subst h;simp
 ·rw [decide_eq_false h];exact (Lib.bytes_beq_false_iff _ _).2 h
theorem obox {w:World} {g:Nat} {cs:Array Value} {T:TypeId} (h:w.heap[g]?=some (.cells cs T (0,0))) :
  (∀ i v,cs[i]?=some v->w.cell? ⟨g,i,none⟩=some v)/\(∀ i,i<cs.size->w.frozen? ⟨g,i,none⟩=false)/\g<w.heap.size:=by
 refine ⟨fun i v hi=>?_,fun i hi=>by simp [World.frozen?,h],lt_heap h⟩
 rw [cell_of_row w g i cs T _ h]
 exact hi
theorem obox4 {w:World} {g:Nat} {a b c d:Value} {T:TypeId} (h:w.heap[g]?=some (.cells #[a,b,c,d] T (0,0))) :
  (w.cell? ⟨g,0,none⟩=some a/\w.cell? ⟨g,1,none⟩=some b/\w.cell? ⟨g,2,none⟩=some c/\w.cell? ⟨g,3,none⟩=some d)/\(w.frozen? ⟨g,0,none⟩=false/\w.frozen? ⟨g,1,none⟩=false/\w.frozen? ⟨g,2,none⟩=false/\w.frozen? ⟨g,3,none⟩=false)/\g<w.heap.size:=by
 obtain ⟨h1,h2,h3⟩:=obox h
 exact ⟨⟨h1 0 _ rfl,h1 1 _ rfl,h1 2 _ rfl,h1 3 _ rfl⟩,⟨h2 0 (by simp),h2 1 (by simp),h2 2 (by simp),h2 3 (by simp)⟩,h3⟩
theorem obox7 {w:World} {g:Nat} {a b c d e f i:Value} {T:TypeId} (h:w.heap[g]?=some (.cells #[a,b,c,d,e,f,i] T (0,0))) :
  (w.cell? ⟨g,0,none⟩=some a/\w.cell? ⟨g,1,none⟩=some b/\w.cell? ⟨g,2,none⟩=some c/\w.cell? ⟨g,3,none⟩=some d/\w.cell? ⟨g,4,none⟩=some e/\w.cell? ⟨g,5,none⟩=some f/\w.cell? ⟨g,6,none⟩=some i)/\g<w.heap.size:=by
 obtain ⟨h1,h2,h3⟩:=obox h
 exact ⟨⟨h1 0 _ rfl,h1 1 _ rfl,h1 2 _ rfl,h1 3 _ rfl,h1 4 _ rfl,h1 5 _ rfl,h1 6 _ rfl⟩,h3⟩
theorem obox8 {w:World} {g:Nat} {a b c d e f i j:Value} {T:TypeId} (h:w.heap[g]?=some (.cells #[a,b,c,d,e,f,i,j] T (0,0))) :
  (w.cell? ⟨g,0,none⟩=some a/\w.cell? ⟨g,1,none⟩=some b/\w.cell? ⟨g,2,none⟩=some c/\w.cell? ⟨g,3,none⟩=some d/\w.cell? ⟨g,4,none⟩=some e/\w.cell? ⟨g,5,none⟩=some f/\w.cell? ⟨g,6,none⟩=some i/\w.cell? ⟨g,7,none⟩=some j)/\g<w.heap.size:=by
 obtain ⟨h1,h2,h3⟩:=obox h
 exact ⟨⟨h1 0 _ rfl,h1 1 _ rfl,h1 2 _ rfl,h1 3 _ rfl,h1 4 _ rfl,h1 5 _ rfl,h1 6 _ rfl,h1 7 _ rfl⟩,h3⟩
def fmtG (f:Fmt) (A:Option Addr) (c:Nat):Value:=.agg #[.int .u8 f.mark,.int .u8 f.quote,.slice A f.kinds.length c,.string f.head,.string f.tail,.string f.count,.string f.sum]
theorem kat1_c (k:RKd) (A:Option Addr) (C b:Nat) (t:ByteArray) (w:World) (hc:w.cell? ⟨b,0,none⟩=some (.string t)) :
  Calls Tryz.prog 79 #[kindG k A C,.pointer (some ⟨b,0,none⟩)] w fun e w'=>e=.returned (.bool (tagIs t k))/\Below w.heap.size w w':=by
 have hc':∀ o,(w.alloc o).cell? ⟨b,0,none⟩=some (.string t):=fun o=>(World.cell?_alloc_some w _ o (by rw [hc];rfl)).trans hc
 have hb:=bytes_dec k.tag t
 unfold tagIs kindG
 cases hd:decide (k.tag=t) with
 | true=>
  rw [hd] at hb
  clear hc hd
  go_enter Tryz.func79,Tryz.ntmps79
  go_wp2
  go_ret
  exact ⟨rfl,by go_grown⟩
 | false=>
  rw [hd] at hb
  clear hc hd
  go_enter Tryz.func79,Tryz.ntmps79
  go_wp2
  go_ret
  exact ⟨rfl,by go_grown⟩
theorem cat1_c (k:Col) (b:Nat) (t:ByteArray) (w:World) (hc:w.cell? ⟨b,0,none⟩=some (.string t)) :
  Calls Tryz.prog 82 #[colG k,.pointer (some ⟨b,0,none⟩)] w fun e w'=>e=.returned (.bool (nameIs t k))/\Below w.heap.size w w':=by
 have hc':∀ o,(w.alloc o).cell? ⟨b,0,none⟩=some (.string t):=fun o=>(World.cell?_alloc_some w _ o (by rw [hc];rfl)).trans hc
 have hb:=bytes_dec k.name t
 unfold nameIs colG
 cases hd:decide (k.name=t) with
 | true=>
  rw [hd] at hb
  clear hc hd
  go_enter Tryz.func82,Tryz.ntmps82
  go_wp2
  go_ret
  exact ⟨rfl,by go_grown⟩
 | false=>
  rw [hd] at hb
  clear hc hd
  go_enter Tryz.func82,Tryz.ntmps82
  go_wp2
  go_ret
  exact ⟨rfl,by go_grown⟩
theorem kf1_c (k x:RKd) (A XA:Option Addr) (C XC b:Nat) (w:World) (hc:w.heap[b]?=some (.cells #[.string x.tag,.slice XA x.fields.length XC,.int .i64 x.most,.string x.under] 83 (0,0))) :
  Calls Tryz.prog 117 #[kindG k A C,.pointer (some ⟨b,0,none⟩)] w fun e w'=>e=.returned (.bool (tagIs x.tag k))/\Below w.heap.size w w':=by
 have hb:=bytes_dec k.tag x.tag
 unfold tagIs kindG
 obtain ⟨⟨g0,-,-,-⟩,-,-⟩:=obox4 (heap_old hc (.cells #[.string k.tag,.slice A k.fields.length C,.int .i64 k.most,.string k.under] 83))
 cases hd:decide (k.tag=x.tag) with
 | true=>
  rw [hd] at hb
  clear hc hd
  go_enter Tryz.func117,Tryz.ntmps117
  go_wp2
  go_ret
  exact ⟨rfl,by go_grown⟩
 | false=>
  rw [hd] at hb
  clear hc hd
  go_enter Tryz.func117,Tryz.ntmps117
  go_wp2
  go_ret
  exact ⟨rfl,by go_grown⟩
theorem kf2_c (k x:RKd) (A XA:Option Addr) (C XC b:Nat) (w:World) (hc:w.heap[b]?=some (.cells #[.string x.tag,.slice XA x.fields.length XC,.int .i64 x.most,.string x.under] 83 (0,0))) :
  Calls Tryz.prog 121 #[kindG k A C,.pointer (some ⟨b,0,none⟩)] w fun e w'=>e=.returned (.bool (tagIs x.under k))/\Below w.heap.size w w':=by
 have hb:=bytes_dec k.tag x.under
 unfold tagIs kindG
 obtain ⟨⟨-,-,-,g0⟩,-,-⟩:=obox4 (heap_old hc (.cells #[.string k.tag,.slice A k.fields.length C,.int .i64 k.most,.string k.under] 83))
 cases hd:decide (k.tag=x.under) with
 | true=>
  rw [hd] at hb
  clear hc hd
  go_enter Tryz.func121,Tryz.ntmps121
  go_wp2
  go_ret
  exact ⟨rfl,by go_grown⟩
 | false=>
  rw [hd] at hb
  clear hc hd
  go_enter Tryz.func121,Tryz.ntmps121
  go_wp2
  go_ret
  exact ⟨rfl,by go_grown⟩
theorem cf1_c (k x:Col) (b:Nat) (w:World) (hc:w.cell? ⟨b,0,none⟩=some (.string x.name)) :
  Calls Tryz.prog 148 #[colG k,.pointer (some ⟨b,0,none⟩)] w fun e w'=>e=.returned (.bool (nameIs x.name k))/\Below w.heap.size w w':=by
 have hc':∀ o,(w.alloc o).cell? ⟨b,0,none⟩=some (.string x.name):=fun o=>(World.cell?_alloc_some w _ o (by rw [hc];rfl)).trans hc
 have hb:=bytes_dec k.name x.name
 unfold nameIs colG
 cases hd:decide (k.name=x.name) with
 | true=>
  rw [hd] at hb
  clear hc hd
  go_enter Tryz.func148,Tryz.ntmps148
  go_wp2
  go_ret
  exact ⟨rfl,by go_grown⟩
 | false=>
  rw [hd] at hb
  clear hc hd
  go_enter Tryz.func148,Tryz.ntmps148
  go_wp2
  go_ret
  exact ⟨rfl,by go_grown⟩
set_option maxRecDepth 100000 in
theorem anyk_of (V W:Value) (b:Bool) (i:Int) (w0 w:World) (hi:decide (0<=i)=b) (hb:Below w0.heap.size w0 w)
  (h:Calls Tryz.prog 78 #[V,W] w fun e w'=>e=.returned (.int .i64 i)/\Below w.heap.size w w') :
  Calls Tryz.prog 119 #[V,W] w fun e w'=>e=.returned (.bool b)/\Below w.heap.size w w':=by
 have HI:=Lib.hid hi
 clear hi
 go_enter Tryz.func119,Tryz.ntmps119
 go_wp2_with fail
 refine h.mono ?_
 rintro e w2 ⟨rfl,hb2⟩
 go_wp2
 go_ret
 exact ⟨congrArg (fun b=>Ending.returned (Value.bool b)) HI.out,hb2⟩
set_option maxRecDepth 100000 in
theorem anyc_of (V W:Value) (b:Bool) (i:Int) (w0 w:World) (hi:decide (0<=i)=b) (hb:Below w0.heap.size w0 w)
  (h:Calls Tryz.prog 81 #[V,W] w fun e w'=>e=.returned (.int .i64 i)/\Below w.heap.size w w') :
  Calls Tryz.prog 147 #[V,W] w fun e w'=>e=.returned (.bool b)/\Below w.heap.size w w':=by
 have HI:=Lib.hid hi
 clear hi
 go_enter Tryz.func147,Tryz.ntmps147
 go_wp2_with fail
 refine h.mono ?_
 rintro e w2 ⟨rfl,hb2⟩
 go_wp2
 go_ret
 exact ⟨congrArg (fun b=>Ending.returned (Value.bool b)) HI.out,hb2⟩
set_option maxHeartbeats 1000000 in
set_option maxRecDepth 100000 in
theorem colat_c (k:RKd) (A:Option Addr) (C:Nat) (t:ByteArray) (w:World) (ho:Cols w A k.fields) :
  Calls Tryz.prog 39 #[kindG k A C,.string t] w fun e w'=>e=.returned (.int .i64 (ixF (nameIs t) k.fields))/\Below w.heap.size w w':=by
 have HO:=Lib.hid ho
 clear ho
 unfold kindG
 go_enter Tryz.func39,Tryz.ntmps39
 go_wp2_with fail
 have hY:=heap_new (w.alloc (.cells #[.string k.tag,.slice A k.fields.length C,.int .i64 k.most,.string k.under] 83)) (.cells #[.string t] 9) (g:=w.heap.size+1) (by simp)
 have hb0:Below w.heap.size w ((w.alloc (.cells #[.string k.tag,.slice A k.fields.length C,.int .i64 k.most,.string k.under] 83)).alloc (.cells #[.string t] 9)):=by go_grown
 generalize (w.alloc (.cells #[.string k.tag,.slice A k.fields.length C,.int .i64 k.most,.string k.under] 83)).alloc (.cells #[.string t] 9)=w1 at hY hb0 ⊢
 refine (ixc_c 82 (.pointer (some ⟨w.heap.size+1,0,none⟩)) (nameIs t) A C k.fields w1 (HO.out.below hb0) (fun _ _=>by kernel_rfl) (fun j hj wr hb=>cat1_c _ _ t wr (cell_of_row _ _ 0 _ _ _ (heap_below hY hb)))).mono ?_
 rintro e w2 ⟨rfl,hb2⟩
 have hB2:=below_then hb2 hb0 hb0.size
 go_wp2
 go_ret
 exact ⟨rfl,hB2⟩
def katI (f:Fmt) (t:ByteArray):Int:=ixF (tagIs t) f.kinds
def katK (f:Fmt) (t:ByteArray):RKd:=if katI f t<0 then kind0 else kA f.kinds (katI f t).toNat
def katA (f:Fmt) (FA:Nat->Option Addr) (t:ByteArray):Option Addr:=if katI f t<0 then none else FA (katI f t).toNat
def katC (f:Fmt) (FC:Nat->Nat) (t:ByteArray):Nat:=if katI f t<0 then 0 else FC (katI f t).toNat
theorem kat_cases (f:Fmt) (FA:Nat->Option Addr) (FC:Nat->Nat) (t:ByteArray):(katI f t=-1/\katK f t=kind0/\katA f FA t=none/\katC f FC t=0) ∨
  ∃ k,k<f.kinds.length/\katI f t=(k:Int)/\katK f t=kA f.kinds k/\katA f FA t=FA k/\katC f FC t=FC k:=by
 unfold katK katA katC
 rcases ixF_spec (tagIs t) f.kinds with ⟨h,-⟩|⟨k,hk,h,-,-⟩
 ·have:katI f t=-1:=h
  rw [this]
  exact .inl ⟨rfl,rfl,rfl,rfl⟩
 ·have:katI f t=(k:Int):=h
  rw [this,if_neg (by omega),if_neg (by omega),if_neg (by omega)]
  exact .inr ⟨k,hk,rfl,rfl,rfl,rfl⟩
set_option maxHeartbeats 1000000 in
set_option maxRecDepth 100000 in
theorem kindat_c (f:Fmt) (A:Option Addr) (c:Nat) (FA:Nat->Option Addr) (FC:Nat->Nat) (t:ByteArray) (w:World) (ho:Kinds w A f.kinds FA FC) :
  Calls Tryz.prog 35 #[fmtG f A c,.string t] w fun e w'=>e=.returned (.tuple #[kindG (katK f t) (katA f FA t) (katC f FC t),.bool (decide (0<=katI f t))])/\Below w.heap.size w w':=by
 have HO:=Lib.hid ho
 have hn:=ho.1.2
 have HK:=Lib.hid (kat_cases f FA FC t)
 unfold fmtG
 clear ho
 go_enter Tryz.func35,Tryz.ntmps35
 go_wp2_with fail
 have hF:=heap_old (heap_old (heap_new w (.cells #[.int .u8 f.mark,.int .u8 f.quote,.slice A f.kinds.length c,.string f.head,.string f.tail,.string f.count,.string f.sum] 44) rfl) (.cells #[.string t] 9)) (.cells #[.string ⟨#[]⟩,.slice none 0 0,.int .i64 0,.string ⟨#[]⟩] 83)
 have hY:=heap_old (heap_new (w.alloc (.cells #[.int .u8 f.mark,.int .u8 f.quote,.slice A f.kinds.length c,.string f.head,.string f.tail,.string f.count,.string f.sum] 44)) (.cells #[.string t] 9) (g:=w.heap.size+1) (by simp)) (.cells #[.string ⟨#[]⟩,.slice none 0 0,.int .i64 0,.string ⟨#[]⟩] 83)
 have hZ:=heap_new ((w.alloc (.cells #[.int .u8 f.mark,.int .u8 f.quote,.slice A f.kinds.length c,.string f.head,.string f.tail,.string f.count,.string f.sum] 44)).alloc (.cells #[.string t] 9)) (.cells #[.string ⟨#[]⟩,.slice none 0 0,.int .i64 0,.string ⟨#[]⟩] 83) (g:=w.heap.size+1+1) (by simp)
 have hb0:Below w.heap.size w (((w.alloc (.cells #[.int .u8 f.mark,.int .u8 f.quote,.slice A f.kinds.length c,.string f.head,.string f.tail,.string f.count,.string f.sum] 44)).alloc (.cells #[.string t] 9)).alloc (.cells #[.string ⟨#[]⟩,.slice none 0 0,.int .i64 0,.string ⟨#[]⟩] 83)):=by go_grown
 generalize ((w.alloc (.cells #[.int .u8 f.mark,.int .u8 f.quote,.slice A f.kinds.length c,.string f.head,.string f.tail,.string f.count,.string f.sum] 44)).alloc (.cells #[.string t] 9)).alloc (.cells #[.string ⟨#[]⟩,.slice none 0 0,.int .i64 0,.string ⟨#[]⟩] 83)=w1 at hF hY hZ hb0 ⊢
 have hix:=ixk_c 79 (.pointer (some ⟨w.heap.size+1,0,none⟩)) (tagIs t) A c f.kinds.length f.kinds FA FC w1 (Nat.le_refl _) (HO.out.below hb0) (fun _ _=>by kernel_rfl) (fun j hj wr hb=>kat1_c _ _ _ _ t wr (cell_of_row _ _ 0 _ _ _ (heap_below hY hb)))
 rw [List.take_length] at hix
 have HIX:=Lib.hid hix
 obtain ⟨n,hnn⟩:∃ n,f.kinds.length=n:=⟨_,rfl⟩
 have HN:=Lib.hid hnn
 rw [hnn] at HIX hF hn ⊢
 clear hix hY hnn
 refine HIX.out.mono ?_
 rintro e w2 ⟨rfl,hb2⟩
 have hF2:=heap_below hF hb2
 have hZ2:=heap_below hZ hb2
 have hB2:=below_then hb2 hb0 hb0.size
 obtain ⟨⟨f0,f1,f2,f3,f4,f5,f6⟩,f7⟩:=obox7 hF2
 obtain ⟨⟨z0,z1,z2,z3⟩,⟨y0,y1,y2,y3⟩,z4⟩:=obox4 hZ2
 have hn1:w.heap.size+1+1<w2.heap.size:=z4
 have HZ2:=Lib.hid hZ2
 clear hF hZ hF2 hZ2 hb2 HIX
 rcases HK.out with ⟨h1,h2,h3,h4⟩|⟨k,hk,h1,h2,h3,h4⟩
 ·have H1:=Lib.hid h1;have H2:=Lib.hid h2;have H3:=Lib.hid h3;have H4:=Lib.hid h4
  have hi:ixF (tagIs t) f.kinds=-1:=h1
  rw [hi]
  clear h1 h2 h3 h4 hi
  go_wp2
  refine bodyPost_ret (v:=.tuple #[.agg #[.string ⟨#[]⟩,.slice none 0 0,.int .i64 0,.string ⟨#[]⟩],.bool false]) (by simp [results,Tryz.results35,go_sem,z0,z1,z2,z3]) rfl ⟨by rw [H1.out,H2.out,H3.out,H4.out];rfl,?_⟩
  go_grown
 ·have hkn:k<n:=by rw [<- HN.out];exact hk
  obtain ⟨b,off,rfl,hbw,hc⟩:=(HO.out.below hB2).2.1.get hk
  have c0:w2.cell? ⟨b,off+k*4,none⟩=some (.string (kA f.kinds k).tag):=hc 0 (by decide)
  have c1:w2.cell? ⟨b,off+k*4+1,none⟩=some (.slice (FA k) (kA f.kinds k).fields.length (FC k)):=hc 1 (by decide)
  have c2:w2.cell? ⟨b,off+k*4+2,none⟩=some (.int .i64 (kA f.kinds k).most):=hc 2 (by decide)
  have c3:w2.cell? ⟨b,off+k*4+3,none⟩=some (.string (kA f.kinds k).under):=hc 3 (by decide)
  have H1:=Lib.hid h1;have H2:=Lib.hid h2;have H3:=Lib.hid h3;have H4:=Lib.hid h4
  have hi:ixF (tagIs t) f.kinds=(k:Int):=h1
  rw [hi]
  have hk0:¬ (k:Int)<0:=by omega
  obtain ⟨x,hx⟩:∃ x,kA f.kinds k=x:=⟨_,rfl⟩
  have HX:=Lib.hid hx
  rw [hx] at c0 c1 c2 c3
  clear h1 h2 h3 h4 hi hc hk hx
  go_wp2
  have hz:((((w2.setCell ⟨w.heap.size+1+1,0,none⟩ (.string x.tag)).setCell ⟨w.heap.size+1+1,1,none⟩ (.slice (FA k) x.fields.length (FC k))).setCell ⟨w.heap.size+1+1,2,none⟩ (.int .i64 x.most)).setCell ⟨w.heap.size+1+1,3,none⟩ (.string x.under)).heap[w.heap.size+1+1]?=some (.cells #[.string x.tag,.slice (FA k) x.fields.length (FC k),.int .i64 x.most,.string x.under] 83 (0,0)):=heap_set (heap_set (heap_set (heap_set HZ2.out 0 _) 1 _) 2 _) 3 _
  obtain ⟨⟨r0,r1,r2,r3⟩,-,-⟩:=obox4 hz
  refine bodyPost_ret (v:=.tuple #[.agg #[.string x.tag,.slice (FA k) x.fields.length (FC k),.int .i64 x.most,.string x.under],.bool true]) (by simp [results,Tryz.results35,go_sem,r0,r1,r2,r3]) rfl ⟨by rw [H1.out,H2.out,H3.out,H4.out,HX.out,decide_eq_true (show (0:Int)<=(k:Int) by omega)];rfl,?_⟩
  go_grown
end Go.Proofs.YtbfbgappinilmaaGreatDoor
namespace Go.Proofs.YtbfbgappinilmaaGreatDoor.Work
def dayB (d:Int):Bool:=decide (1<=d/\d<=3652059)
theorem dayB_yes {d:Int} (h:dayB d=true):1<=d/\d<=3652059:=by simpa [dayB] using h
theorem dayB_no {d:Int} (h:dayB d=false):¬ (1<=d/\d<=3652059):=by
 intro h2
 have:dayB d=true:=by simpa [dayB] using h2
 rw [h] at this;cases this
theorem dayB_mk {d:Int} (h:1<=d/\d<=3652059):dayB d=true:=by simpa [dayB] using h
theorem dayB_not {d:Int} (h:¬ (1<=d/\d<=3652059)):dayB d=false:=by
 cases e:dayB d with
 | false=>rfl
 | true=>exact absurd (dayB_yes e) h
end Go.Proofs.YtbfbgappinilmaaGreatDoor.Work
namespace Go.Proofs.YtbfbgappinilmaaGreatDoor
open Go.RowKit Limb Work
theorem isday_c (n:Int) (w:World):Calls Tryz.prog 21 #[.int .i64 n] w fun e w'=>w=w'/\e=.returned (.bool (dayB n)):=by
 by_cases h:1<=n/\n<=3652059
 ·rw [dayB_mk h]
  go_enter Tryz.func21,Tryz.ntmps21
  go_wp2_with (go_at_call 22;refine (out_no _ _ _ _ h).mono ?_;rintro e w1 ⟨rfl,rfl⟩)
  go_ret
  exact ⟨rfl,rfl⟩
 ·rw [dayB_not h]
  go_enter Tryz.func21,Tryz.ntmps21
  go_wp2_with (go_at_call 22;refine (out_yes _ _ _ _ h).mono ?_;rintro e w1 ⟨rfl,rfl⟩)
  go_ret
  exact ⟨rfl,rfl⟩
theorem weekday_c (d:Int) (w:World) (h:1<=d/\d<=4000000):Calls Tryz.prog 176 #[.int .i64 d] w fun e w'=>w=w'/\e=.returned (.int .i64 ((d-1)%7)):=by
 obtain ⟨h1,h2⟩:=h
 go_enter Tryz.func176,Tryz.ntmps176
 go_wp2
 go_ret
 exact ⟨rfl,rfl⟩
end Go.Proofs.YtbfbgappinilmaaGreatDoor
namespace Go.Proofs.YtbfbgappinilmaaGreatDoor
open Go.RowKit Limb Work
set_option linter.unusedVariables false
set_option linter.unusedSimpArgs false
theorem beqT {a b:Int} (h:a=b):(a==b)=true:=beq_iff_eq.2 h
theorem beqF {a b:Int} (h:¬ a=b):(a==b)=false:=beq_eq_false_iff_ne.2 h
theorem leap_c (y:Int) (w:World) (h:1<=y/\y<=10000):Calls Tryz.prog 193 #[.int .i64 y] w fun e w'=>w=w'/\e=.returned (.bool (leapB y)):=by
 obtain ⟨h1,h2⟩:=h
 by_cases a:y%4=0
 ·by_cases b:y%100=0
  ·by_cases c:y%400=0
   ·have e:leapB y=true:=decide_eq_true ⟨a,Or.inr c⟩
    rw [e]
    have a:=beqT a;have b:=beqT b;have c:=beqT c;clear e
    go_enter Tryz.func193,Tryz.ntmps193
    go_wp2
    go_ret
    exact ⟨rfl,rfl⟩
   ·have e:leapB y=false:=decide_eq_false (fun h=>h.2.elim (fun h=>h b) c)
    rw [e]
    have a:=beqT a;have b:=beqT b;have c:=beqF c;clear e
    go_enter Tryz.func193,Tryz.ntmps193
    go_wp2
    go_ret
    exact ⟨rfl,rfl⟩
  ·have e:leapB y=true:=decide_eq_true ⟨a,Or.inl b⟩
   rw [e]
   have a:=beqT a;have b:=beqF b;clear e
   go_enter Tryz.func193,Tryz.ntmps193
   go_wp2
   go_ret
   exact ⟨rfl,rfl⟩
 ·have e:leapB y=false:=decide_eq_false (fun h=>a h.1)
  rw [e]
  have a:=beqF a;clear e
  go_enter Tryz.func193,Tryz.ntmps193
  go_wp2
  go_ret
  exact ⟨rfl,rfl⟩
theorem dim_two {y:Int} : dim y 2=if leapB y=true then 29 else 28:=rfl
set_option maxHeartbeats 1000000 in
set_option maxRecDepth 100000 in
theorem daysof_c (y m:Int) (w:World) (h:1<=y/\y<=10000) (hm:1<=m/\m<=12):Calls Tryz.prog 189 #[.int .i64 y,.int .i64 m] w fun e w'=>Below w.heap.size w w'/\e=.returned (.int .i64 (dim y m)):=by
 have HY:=Lib.hid h
 have hm12:m=1∨m=2∨m=3∨m=4∨m=5∨m=6∨m=7∨m=8∨m=9∨m=10∨m=11∨m=12:=by omega
 clear h hm
 rcases hm12 with rfl | rfl | rfl | rfl | rfl | rfl | rfl | rfl | rfl | rfl | rfl | rfl
 case inr.inl=>
  cases hl:leapB y with
  | true=>
   rw [show dim y 2=29 by rw [dim_two,if_pos hl]]
   have HL:=Lib.hid hl;clear hl
   go_enter Tryz.func189,Tryz.ntmps189
   go_wp2_with (go_at_call 193;refine (leap_c _ _ HY.out).mono ?_;rw [HL.out];rintro e w1 ⟨rfl,rfl⟩)
   go_ret
   exact ⟨by go_grown,rfl⟩
  | false=>
   rw [show dim y 2=28 by rw [dim_two,if_neg (by rw [hl];simp)]]
   have HL:=Lib.hid hl;clear hl
   have hB:∀ w:World,(Instr.build 229 #[(0,.int .i64 31),(1,.int .i64 28),(2,.int .i64 31),(3,.int .i64 30),(4,.int .i64 31),(5,.int .i64 30),(6,.int .i64 31),(7,.int .i64 31),(8,.int .i64 30),(9,.int .i64 31),(10,.int .i64 30),(11,.int .i64 31)]).run Tryz.prog w=.ok (.agg #[.int .i64 31,.int .i64 28,.int .i64 31,.int .i64 30,.int .i64 31,.int .i64 30,.int .i64 31,.int .i64 31,.int .i64 30,.int .i64 31,.int .i64 30,.int .i64 31]) w:=fun w=>run_build w _ _ _ (by kernel_rfl)
   go_enter Tryz.func189,Tryz.ntmps189
   go_wp2_with (go_at_call 193;refine (leap_c _ _ HY.out).mono ?_;rw [HL.out];rintro e w1 ⟨rfl,rfl⟩)
   simp [Instr.index,run_underlying Tryz.underlying229,asIntOf,go_sem]
   go_wp2
   go_ret
   exact ⟨by go_grown,rfl⟩
 all_goals
  have hB:∀ w:World,(Instr.build 229 #[(0,.int .i64 31),(1,.int .i64 28),(2,.int .i64 31),(3,.int .i64 30),(4,.int .i64 31),(5,.int .i64 30),(6,.int .i64 31),(7,.int .i64 31),(8,.int .i64 30),(9,.int .i64 31),(10,.int .i64 30),(11,.int .i64 31)]).run Tryz.prog w=.ok (.agg #[.int .i64 31,.int .i64 28,.int .i64 31,.int .i64 30,.int .i64 31,.int .i64 30,.int .i64 31,.int .i64 31,.int .i64 30,.int .i64 31,.int .i64 30,.int .i64 31]) w:=fun w=>run_build w _ _ _ (by kernel_rfl)
  go_enter Tryz.func189,Tryz.ntmps189
  go_wp2
  simp [Instr.index,run_underlying Tryz.underlying229,asIntOf,go_sem]
  go_wp2
  go_ret
  exact ⟨by go_grown,rfl⟩
theorem before_c (y:Int) (w:World) (h:1<=y/\y<=10000):Calls Tryz.prog 188 #[.int .i64 y] w fun e w'=>w=w'/\e=.returned (.int .i64 (bef y)):=by
 obtain ⟨h1,h2⟩:=h
 go_enter Tryz.func188,Tryz.ntmps188
 go_wp2
 go_ret
 exact ⟨rfl,rfl⟩
def dayR (y m d:Int):Int:=if dateB y m d=true then num y m d else 0
theorem dayR_yes {y m d:Int} (h:dateB y m d=true):dayR y m d=num y m d:=if_pos h
theorem dayR_no {y m d:Int} (h:dateB y m d=false):dayR y m d=0:=if_neg (by rw [h];simp)
theorem num_cum {y d:Int} {k:Nat} : num y ((k:Int)+1) d=bef y+cum y k+d:=by
 unfold num;rw [show ((k:Int)+1-1).toNat=k by omega]
theorem cum_bd12 (y:Int) {k:Nat} (h:k<=12):0<=cum y k/\cum y k<=366:=by
 have a:=cum_le y (i:=0) (j:=k) (by omega)
 have b:=cum_le y (i:=k) (j:=12) h
 have c:=cum_12_bd y
 rw [cum] at a
 omega
theorem ival {a b:Int} (h:a=b):Value.int .i64 a=.int .i64 b:=by rw [h]
def RetI2 (n:Int) (b:Bool) (w:World) (e:Ending) (w':World):Prop:=e=.returned (.tuple #[.int .i64 n,.bool b])/\Below w.heap.size w w'
def RetNF (n f:Int) (w:World) (e:Ending) (w':World):Prop:=e=.returned (.tuple #[.int .i64 n,.int .i64 f])/\Below w.heap.size w w'
set_option maxHeartbeats 1000000 in
set_option maxRecDepth 100000 in
theorem dayof_c (y m d:Int) (w:World) (hy : -9223372036854775808<=y/\y<=9223372036854775807) :
  Calls Tryz.prog 186 #[.int .i64 y,.int .i64 m,.int .i64 d] w (RetI2 (dayR y m d) (dateB y m d) w):=by
 by_cases h1:1<=y/\y<=9999
 case neg=>
  have hb:dateB y m d=false:=dateB_not (fun h=>h1 h.1)
  rw [dayR_no hb,hb]
  clear hb
  go_enter Tryz.func186,Tryz.ntmps186
  go_wp2_with (go_at_call 22;refine (out_yes _ _ _ _ h1).mono ?_;rintro e w1 ⟨rfl,rfl⟩)
  go_ret2
  exact ⟨rfl,by go_grown⟩
 by_cases h2:1<=m/\m<=12
 case neg=>
  have hb:dateB y m d=false:=dateB_not (fun h=>h2 h.2.1)
  rw [dayR_no hb,hb]
  clear hb
  go_enter Tryz.func186,Tryz.ntmps186
  go_wp2_with fail
  refine (out_no _ _ _ _ h1).mono ?_
  rintro e w1 ⟨rfl,rfl⟩
  go_wp2_with fail
  refine (out_yes _ _ _ _ h2).mono ?_
  rintro e w1 ⟨rfl,rfl⟩
  go_wp2
  go_ret2
  exact ⟨rfl,by go_grown⟩
 by_cases h3:1<=d/\d<=dim y m
 case neg=>
  have hb:dateB y m d=false:=dateB_not (fun h=>h3 h.2.2)
  rw [dayR_no hb,hb]
  clear hb
  go_enter Tryz.func186,Tryz.ntmps186
  go_wp2_with fail
  refine (out_no _ _ _ _ h1).mono ?_
  rintro e w1 ⟨rfl,rfl⟩
  go_wp2_with fail
  refine (out_no _ _ _ _ h2).mono ?_
  rintro e w1 ⟨rfl,rfl⟩
  go_wp2_with fail
  refine (daysof_c _ _ _ (by omega) h2).mono ?_
  rintro e w1 ⟨hb1,rfl⟩
  go_wp2_with fail
  refine (out_yes _ _ _ _ h3).mono ?_
  rintro e w2 ⟨rfl,rfl⟩
  go_wp2
  go_ret2
  exact ⟨rfl,by go_grown⟩
 have hb:dateB y m d=true:=dateB_mk ⟨h1,h2,h3⟩
 rw [dayR_yes hb,hb]
 have hd31:=dim_bd y m
 obtain ⟨K,hK,rfl⟩:∃ K:Nat,K<=11/\m=(K:Int)+1:=⟨(m-1).toNat,by omega,by omega⟩
 have HN:=Lib.hid (num_cum (y:=y) (d:=d) (k:=K))
 have HB:=bef_bd (y:=y) (by omega) (by omega)
 clear hb hy
 go_enter Tryz.func186,Tryz.ntmps186
 go_wp2_with fail
 refine (out_no _ _ _ _ h1).mono ?_
 rintro e w1 ⟨rfl,rfl⟩
 go_wp2_with fail
 refine (out_no _ _ _ _ h2).mono ?_
 rintro e w1 ⟨rfl,rfl⟩
 go_wp2_with fail
 refine (daysof_c _ _ _ (by omega) h2).mono ?_
 rintro e w1 ⟨hb1,rfl⟩
 go_wp2_with fail
 refine (out_no _ _ _ _ h3).mono ?_
 rintro e w2 ⟨rfl,rfl⟩
 go_wp2_with fail
 refine (before_c _ _ (by omega)).mono ?_
 rintro e w2 ⟨rfl,rfl⟩
 go_wp2
 go_loopw [8,9] (fun s i wr=>∃ k:Nat,k<=K/\i=.int .i64 ((k:Int)+1)/\s=.int .i64 (bef y+d+cum y k)/\Below w.heap.size w wr) (fun _ i _=>(K+1-(intOf i).toNat))
 case atStart=>exact ⟨0,Nat.zero_le _,by go_num,ival (by rw [cum];omega),hb1⟩
 case round=>
  obtain ⟨k,hk,rfl,rfl,hbel⟩:=hrel
  have hcb:=cum_bd12 y (k:=k) (by omega)
  have hz:=hbel.size
  rcases Nat.lt_or_ge k K with hlt | hge
  ·have hs:=cum_bd12 y (k:=k+1) (by omega)
   have hS:=Lib.hid (show cum y (k+1)=cum y k+dim y ((k:Int)+1) from rfl)
   have hdk:=dim_bd y ((k:Int)+1)
   have hlt':(k:Int)+1<(K:Int)+1:=by omega
   go_wp2_with fail
   refine (daysof_c _ _ _ (by omega) (by omega)).mono ?_
   rintro e w2 ⟨hb2,rfl⟩
   go_wp2
   go_roundw
   case rel=>exact ⟨k+1,by omega,ival (by omega),ival (by rw [hS.out];omega),below_then hb2 hbel hz⟩
   case measure=>simp [intOf];omega
  ·obtain rfl:k=K:=by omega
   have hlt':¬ (k:Int)+1<(k:Int)+1:=by omega
   go_wp2
   go_ret2
   exact ⟨congrArg (fun x=>Ending.returned (.tuple #[.int .i64 x,.bool true])) (show bef y+d+cum y k=num y ((k:Int)+1) d by rw [HN.out];omega),hbel⟩
def RetD3 (y m d:Int) (w:World) (e:Ending) (w':World):Prop:=e=.returned (.tuple #[.int .i64 y,.int .i64 m,.int .i64 d])/\Below w.heap.size w w'
theorem Work.DateIs.year_le {day y m d v:Int} (h:DateIs day y m d) (hv:bef v<day):v<=y:=by
 have f:=h.facts
 rcases Int.lt_or_le y v with k | k
 ·have:=bef_mono (a:=y+1) (b:=v) (by omega);omega
 ·exact k
set_option maxHeartbeats 1000000 in
set_option maxRecDepth 100000 in
theorem dateof_c (day y m d:Int) (w:World) (h1:1<=day) (h2:day<=3652059) (h:DateIs day y m d) :
  Calls Tryz.prog 173 #[.int .i64 day] w (RetD3 y m d w):=by
 have HD:=Lib.hid h
 obtain ⟨⟨y1,y2⟩,⟨m1,m2⟩,⟨d1,d2⟩,d3,b1,b2⟩:=h.facts
 have hn:=h.2
 have hg:=h.year_le (bef_guess h1)
 obtain ⟨K,hK,rfl⟩:∃ K:Nat,K<=11/\m=(K:Int)+1:=⟨(m-1).toNat,by omega,by omega⟩
 rw [num_cum] at hn
 have HN:=Lib.hid hn
 have HB:=bef_bd (y:=y) (by omega) (by omega)
 have hK12:=cum_bd12 y (k:=K) (by omega)
 clear h hn
 go_enter Tryz.func173,Tryz.ntmps173
 go_wp2
 go_loop [2] (fun s=>∃ v:Int,1<=v/\v<=y/\s=.int .i64 v) (fun s=>(y-intOf s).toNat)
 case atStart=>exact ⟨day/366+1,by omega,hg,rfl⟩
 case round=>
  obtain ⟨v,v1,v2,rfl⟩:=hrel
  rcases Int.lt_or_le v y with hlt | hge
  ·have hm:=bef_mono (a:=v+1) (b:=y) (by omega)
   have hb3:bef (v+1)<day:=by omega
   have hv9:v<9999:=by omega
   clear hm
   go_wp2_with fail
   refine (before_c _ _ (by omega)).mono ?_
   rintro e w2 ⟨rfl,rfl⟩
   go_wp2
   go_round
   case rel=>exact ⟨v+1,by omega,by omega,rfl⟩
   case measure=>simp [intOf];omega
  ·obtain rfl:v=y:=by omega
   have hb3:¬ bef (v+1)<day:=by omega
   have hc:=cum_bd12 v (k:=0) (by omega)
   by_cases hv9:v<9999
   all_goals
    go_wp2_with (go_at_call 188;refine (before_c _ _ (by omega)).mono ?_;rintro e w2 ⟨rfl,rfl⟩)
    go_loopw [3,4] (fun i s wr=>∃ k:Nat,k<=K/\i=.int .i64 ((k:Int)+1)/\s=.int .i64 (d+cum v K-cum v k)/\Below w.heap.size w wr) (fun i _ _=>(K+1-(intOf i).toNat))
    case atStart=>exact ⟨0,Nat.zero_le _,by go_num,ival (by have:=HN.out;have:cum v 0=0:=rfl;omega),Below.refl _ _⟩
    case round=>
     obtain ⟨k,hk,rfl,rfl,hbel⟩:=hrel
     have hcb:=cum_bd12 v (k:=k) (by omega)
     have hz:=hbel.size
     have hdk:=dim_bd v ((k:Int)+1)
     rcases Nat.lt_or_ge k K with hlt | hge
     ·have hs:=cum_le v (i:=k+1) (j:=K) (by omega)
      rw [cum] at hs
      have hS:=Lib.hid (show cum v (k+1)=cum v k+dim v ((k:Int)+1) from rfl)
      have ht:dim v ((k:Int)+1)<d+cum v K-cum v k:=by omega
      have ht2:dim v ((k:Int)+1)+cum v k<d+cum v K:=by omega
      go_wp2_with fail
      refine (daysof_c _ _ _ (by omega) (by omega)).mono ?_
      rintro e w2 ⟨hb2,rfl⟩
      have hbel2:=below_then hb2 hbel hz
      have hz2:=hbel2.size
      go_wp2_with fail
      refine (daysof_c _ _ _ (by omega) (by omega)).mono ?_
      rintro e w3 ⟨hb3,rfl⟩
      go_wp2
      go_roundw
      case rel=>exact ⟨k+1,by omega,ival (by omega),ival (by rw [hS.out];omega),below_then hb3 hbel2 hz2⟩
      case measure=>simp [intOf];omega
     ·obtain rfl:k=K:=by omega
      have ht:¬ dim v ((k:Int)+1)<d+cum v k-cum v k:=by omega
      go_wp2_with fail
      refine (daysof_c _ _ _ (by omega) (by omega)).mono ?_
      rintro e w2 ⟨hb2,rfl⟩
      go_wp2
      refine bodyPost_ret (v:=.tuple #[.int .i64 v,.int .i64 ((k:Int)+1),.int .i64 d]) (by simp [results,Tryz.results173,go_sem];try omega) rfl ⟨rfl,below_then hb2 hbel hz⟩
set_option maxHeartbeats 1000000 in
theorem weekof_c (day y m d:Int) (w:World) (h1:1<=day) (h2:day<=3652059) (h:DateIs (thu day) y m d) :
  Calls Tryz.prog 175 #[.int .i64 day] w fun e w'=>e=.returned (.tuple #[.int .i64 y,.int .i64 (wk day y)])/\Below w.heap.size w w':=by
 have ht:=thu_bd h1 h2
 obtain ⟨⟨y1,y2⟩,-,-,-,b1,b2⟩:=h.facts
 have HD:=Lib.hid h;clear h
 have hw:=wk_bd b1 b2
 have HB:=bef_bd (y:=y) (by omega) (by omega)
 have e0:day-(day-1)%7+3=thu day:=rfl
 have e7:(thu day-bef y-1)/7+1=wk day y:=rfl
 have hm:0<=(day-1)%7/\(day-1)%7<=6:=by omega
 have E0:=Lib.hid e0;have E7:=Lib.hid e7;clear e0 e7
 go_enter Tryz.func175,Tryz.ntmps175
 go_wp2_with fail
 refine (weekday_c _ _ ⟨h1,by omega⟩).mono ?_
 rintro e w1 ⟨rfl,rfl⟩
 go_wp2_with fail
 rw [E0.out]
 refine (dateof_c (thu day) y m d _ ht.1 ht.2 HD.out).mono ?_
 rintro e w1 ⟨rfl,hb1⟩
 go_wp2_with fail
 refine (before_c _ _ (by omega)).mono ?_
 rintro e w2 ⟨rfl,rfl⟩
 go_wp2
 go_ret2
 exact ⟨congrArg (fun x=>Ending.returned (.tuple #[.int .i64 y,.int .i64 x])) E7.out,hb1⟩
end Go.Proofs.YtbfbgappinilmaaGreatDoor
