/- The walk of ReadFormat, and of awake. The walks of awake and of SameFormat, at equal formats. -/
import Derived.Test.YtaiabjiehpcaoaaGreatDoorFF
import Derived.Test.YtaiabjiehpcaoaaGreatDoorE1
-- merged: FG FH UN
set_option maxHeartbeats 4000000
set_option maxRecDepth 100000
namespace Go.Proofs.YtaiabjiehpcaoaaGreatDoor
open Go.RowKit Limb Nmb Work
set_option linter.unusedVariables false
set_option linter.unusedSimpArgs false
theorem linesF_step {e:Bool} {st:FSt} {i:Int} {Ls:List (List UInt8)} {j:Nat} (h:j<Ls.length):linesF e st i (Ls.drop j)=match lineF st (bs Ls[j]) with
  | none=>.inr (i+1)
  | some st'=>if e=false/\j+1=Ls.length then .inr (i+1) else linesF e st' (i+1) (Ls.drop (j+1)):=by
 rw [List.drop_eq_getElem_cons h]
 show (match lineF st (bs Ls[j]) with | none=>_ | some st'=>_)=_
 cases lineF st (bs Ls[j]) with
 | none=>rfl
 | some st'=>
  simp only
  have e1:(e=false/\Ls.drop (j+1)=[])↔(e=false/\j+1=Ls.length):=by
   rw [List.drop_eq_nil_iff]
   constructor
   ·rintro ⟨a,b⟩;exact ⟨a,by omega⟩
   ·rintro ⟨a,b⟩;exact ⟨a,by omega⟩
  by_cases hc:e=false/\j+1=Ls.length
  ·rw [if_pos hc,if_pos (e1.2 hc)]
  ·rw [if_neg hc,if_neg (fun k=>hc (e1.1 k))]
def FmtRng (f:Fmt):Prop:=(0<=f.mark/\f.mark<=255)/\(0<=f.quote/\f.quote<=255)
def RetRF (R:Fmt×Int×Int) (w:World) (e:Ending) (w':World):Prop :=
 ∃ f A c FA FC n x,e=.returned (.tuple #[fmtG f A c,.int .i64 n,.int .i64 x])/\R=(f,n,x)/\Kinds w' A f.kinds FA FC/\f.kinds.length<=c/\c<=9223372036854775807/\FmtRng f/\Below w.heap.size w w'
theorem kinds_nil (w:World):Kinds w none [] (fun _=>none) (fun _=>0):=⟨⟨fun k hk=>(by cases hk),by decide⟩,fun h=>absurd h (by decide),fun j hj=>absurd hj (Nat.not_lt_zero _)⟩
theorem RetRF.no {R:Fmt×Int×Int} {w w':World} {n x:Int} (h:R=(fmt0,n,x)) (hb:Below w.heap.size w w'):RetRF R w (.returned (.tuple #[.agg #[.int .u8 0,.int .u8 0,.slice none 0 0,.string ⟨#[]⟩,.string ⟨#[]⟩,.string ⟨#[]⟩,.string ⟨#[]⟩],.int .i64 n,.int .i64 x])) w' :=
 ⟨fmt0,none,0,_,_,n,x,rfl,h,kinds_nil w',Nat.le_refl 0,by omega,⟨⟨by decide,by decide⟩,by decide,by decide⟩,hb⟩
theorem obox7f {w:World} {g:Nat} {a b c d e f i:Value} {T:TypeId} (h:w.heap[g]?=some (.cells #[a,b,c,d,e,f,i] T (0,0))) :
  (w.cell? ⟨g,0,none⟩=some a/\w.cell? ⟨g,1,none⟩=some b/\w.cell? ⟨g,2,none⟩=some c/\w.cell? ⟨g,3,none⟩=some d/\w.cell? ⟨g,4,none⟩=some e/\w.cell? ⟨g,5,none⟩=some f/\w.cell? ⟨g,6,none⟩=some i) /\
   (w.frozen? ⟨g,0,none⟩=false/\w.frozen? ⟨g,1,none⟩=false/\w.frozen? ⟨g,2,none⟩=false/\w.frozen? ⟨g,3,none⟩=false/\w.frozen? ⟨g,4,none⟩=false/\w.frozen? ⟨g,5,none⟩=false/\w.frozen? ⟨g,6,none⟩=false)/\g<w.heap.size:=by
 obtain ⟨h1,h2,h3⟩:=obox h
 exact ⟨⟨h1 0 _ rfl,h1 1 _ rfl,h1 2 _ rfl,h1 3 _ rfl,h1 4 _ rfl,h1 5 _ rfl,h1 6 _ rfl⟩,⟨h2 0 (by simp),h2 1 (by simp),h2 2 (by simp),h2 3 (by simp),h2 4 (by simp),h2 5 (by simp),h2 6 (by simp)⟩,h3⟩
theorem FmtOk.size {f:Fmt} {S T N:Nat} (h:FmtOk f S N) (hm:S<=T):FmtOk f T N:=⟨h.1,fun k hk=>⟨⟨⟨Nat.le_trans (h.2 k hk).1.1.1 hm,Nat.le_trans (h.2 k hk).1.1.2 hm⟩,(h.2 k hk).1.2⟩,fun c hc=>Nat.le_trans ((h.2 k hk).2 c hc) hm⟩⟩
theorem rb_set {w:World} {g:Nat} {a b c d e f i a' b' c' d' e' f' i':Value} {T:TypeId} (h:w.heap[g]?=some (.cells #[a',b',c',d',e',f',i'] T (0,0))) :
  (((((((w.setCell ⟨g,0,none⟩ a).setCell ⟨g,1,none⟩ b).setCell ⟨g,2,none⟩ c).setCell ⟨g,3,none⟩ d).setCell ⟨g,4,none⟩ e).setCell ⟨g,5,none⟩ f).setCell ⟨g,6,none⟩ i).heap[g]?=some (.cells #[a,b,c,d,e,f,i] T (0,0)):=by
 have:=Qae (Qae (Qae (Qae (Qae (Qae (Qae h 0 a) 1 b) 2 c) 3 d) 4 e) 5 f) 6 i
 simpa using this
theorem rb_keep {w:World} {g k:Nat} {a b c d e f i:Value} {o:Obj} (h:w.heap[k]?=some o) (hk:k≠g) :
  (((((((w.setCell ⟨g,0,none⟩ a).setCell ⟨g,1,none⟩ b).setCell ⟨g,2,none⟩ c).setCell ⟨g,3,none⟩ d).setCell ⟨g,4,none⟩ e).setCell ⟨g,5,none⟩ f).setCell ⟨g,6,none⟩ i).heap[k]?=some o :=
 Qaf (Qaf (Qaf (Qaf (Qaf (Qaf (Qaf h (p:=⟨g,0,none⟩) hk a) (p:=⟨g,1,none⟩) hk b) (p:=⟨g,2,none⟩) hk c) (p:=⟨g,3,none⟩) hk d) (p:=⟨g,4,none⟩) hk e) (p:=⟨g,5,none⟩) hk f) (p:=⟨g,6,none⟩) hk i
theorem rb_below {B:Nat} {w w':World} {g:Nat} {a b c d e f i:Value} (h:Below B w w') (hg:B<=g):Below B w (((((((w'.setCell ⟨g,0,none⟩ a).setCell ⟨g,1,none⟩ b).setCell ⟨g,2,none⟩ c).setCell ⟨g,3,none⟩ d).setCell ⟨g,4,none⟩ e).setCell ⟨g,5,none⟩ f).setCell ⟨g,6,none⟩ i) :=
 ((((((h.setCell (p:=⟨g,0,none⟩) hg _).setCell (p:=⟨g,1,none⟩) hg _).setCell (p:=⟨g,2,none⟩) hg _).setCell (p:=⟨g,3,none⟩) hg _).setCell (p:=⟨g,4,none⟩) hg _).setCell (p:=⟨g,5,none⟩) hg _).setCell (p:=⟨g,6,none⟩) hg _
theorem bs_len (t:ByteArray):∀ s∈(lnsL t.data.toList).map bs,s.size<=t.size:=by
 intro s hs
 obtain ⟨l,hl,rfl⟩:=List.mem_map.1 hs
 rw [bs_size]
 have h2:t.data.toList.length=t.size:=by simp
 rw [<- h2]
 unfold lnsL at hl
 split at hl
 ·cases hl
 ·split at hl
  ·have:=pcs_sum 10 _ l hl
   rw [List.length_dropLast] at this
   omega
  ·exact pcs_sum 10 _ l hl
theorem lns_cnt (t:ByteArray):(lnsL t.data.toList).length<=t.size+1:=by
 have h2:t.data.toList.length=t.size:=by simp
 unfold lnsL
 split
 ·simp
 ·split
  ·rw [pcs_len]
   have:=List.count_le_length (a:=(10:UInt8)) (l:=t.data.toList.dropLast)
   rw [List.length_dropLast] at this
   omega
  ·rw [pcs_len]
   have:=List.count_le_length (a:=(10:UInt8)) (l:=t.data.toList)
   omega
theorem readfmt_c (t:ByteArray) (m0:Int) (w:World) (hm0:w.cell? ⟨2,0,none⟩=some (.int .i64 m0)) (hnk:∀ l∈lnsL t.data.toList,kindW (wd (wrdS (bs l)) 0)=0) :
  Calls Tryz.prog 35 #[.string t] w (RetRF (readF t) w):=by
 obtain ⟨R,hR⟩:=ex_ (readF t)
 rw [hR]
 have HR:=Hd hR
 clear hR
 have HP:=Hd (Qac w (.cells #[.int .u8 0,.int .u8 0,.slice none 0 0,.string ⟨#[]⟩,.string ⟨#[]⟩,.string ⟨#[]⟩,.string ⟨#[]⟩] 24) rfl)
 by_cases hs:t.size<=500000
 case neg=>
  have h1:(500000:Int)<(t.size:Int):=by omega
  have HE:=Hd (show R=(fmt0,0,2) by rw [<- HR.out];unfold readF;rw [if_pos (by omega)])
  clear hs
  go_enter Tryz.func35,Tryz.ntmps35
  have HB:=(Below.refl w.heap.size w).alloc (Nat.le_refl _) (.cells #[.int .u8 0,.int .u8 0,.slice none 0 0,.string ⟨#[]⟩,.string ⟨#[]⟩,.string ⟨#[]⟩,.string ⟨#[]⟩] 24)
  go_wp2
  obtain ⟨⟨r0,r1,r2,r3,r4,r5,r6⟩,-⟩:=Qai (HP.out)
  exact bodyPost_ret (v:=.tuple #[.agg #[.int .u8 0,.int .u8 0,.slice none 0 0,.string ⟨#[]⟩,.string ⟨#[]⟩,.string ⟨#[]⟩,.string ⟨#[]⟩],.int .i64 0,.int .i64 2]) (by simp [results,Tryz.results35,go_sem,r0,r1,r2,r3,r4,r5,r6]) rfl (RetRF.no HE.out (HB))
 have h1:¬ (500000:Int)<(t.size:Int):=by omega
 have HM:Hid ((w.alloc (.cells #[.int .u8 0,.int .u8 0,.slice none 0 0,.string ⟨#[]⟩,.string ⟨#[]⟩,.string ⟨#[]⟩,.string ⟨#[]⟩] 24)).cell? ⟨2,0,none⟩=some (.int .i64 m0)):=Hd ((World.cell?_alloc_some w _ (.cells #[.int .u8 0,.int .u8 0,.slice none 0 0,.string ⟨#[]⟩,.string ⟨#[]⟩,.string ⟨#[]⟩,.string ⟨#[]⟩] 24) (by rw [hm0];rfl)).trans hm0)
 have HLN:=Hd (lines_c t m0 (w.alloc (.cells #[.int .u8 0,.int .u8 0,.slice none 0 0,.string ⟨#[]⟩,.string ⟨#[]⟩,.string ⟨#[]⟩,.string ⟨#[]⟩] 24)) hs HM.out)
 obtain ⟨E,hE⟩:=ex_ (lnsE t.data.toList)
 have hRR:readF t=(match linesF E st0 0 (lnsL t.data.toList) with | .inr n=>(fmt0,n,10) | .inl st=>if st.ended=false then (fmt0,(lnsL t.data.toList).length+1,10) else if Qao st.f≠0 then (fmt0,0,Qao st.f) else (st.f,0,0)):=by
  unfold readF
  rw [if_neg (by omega),hE]
  rfl
 rw [HR.out] at hRR
 have hcnt:=lns_cnt t
 have HSZ:=Hd (bs_len t)
 have HKL:=Hd hnk
 obtain ⟨Ls,hLs⟩:=ex_ (lnsL t.data.toList)
 rw [hLs] at hRR hcnt HSZ HKL
 clear hnk
 have HRR:=Hd hRR
 unfold RetLs at HLN
 rw [hE,hLs] at HLN
 obtain ⟨n,hn⟩:=ex_ (Ls.length)
 have HN:=Hd hn
 rw [hn] at HLN hcnt
 have HHS:=Hd hs
 clear hE hRR hLs hn hm0 hs HR
 go_enter Tryz.func35,Tryz.ntmps35
 go_wp2_with fail
 refine HLN.out.mono ?_
 rintro e w1 ⟨LA,rfl,hst,hb1⟩
 have HP1:=Hd (Qaa HP.out hb1)
 have HM1:=Hd ((hb1.cell (p:=⟨2,0,none⟩) (World.block_lt_of_cell? _ _ HM.out)).trans HM.out)
 have HST:=Hd hst
 have HB1:Hid (Below w.heap.size w w1):=Hd (((Below.refl w.heap.size w).alloc (Nat.le_refl _) (.cells #[.int .u8 0,.int .u8 0,.slice none 0 0,.string ⟨#[]⟩,.string ⟨#[]⟩,.string ⟨#[]⟩,.string ⟨#[]⟩] 24)).trans (hb1.mono (by simp)))
 clear hst hb1 HLN HM HP
 go_wp2_with fail
 have HRB:=Hd (Qac w1 (.cells #[.int .u8 0,.int .u8 0,.slice none 0 0,.string ⟨#[]⟩,.string ⟨#[]⟩,.string ⟨#[]⟩,.string ⟨#[]⟩,.bool false,.bool false] 99) rfl)
 have hB2:Below w1.heap.size w1 (w1.alloc (.cells #[.int .u8 0,.int .u8 0,.slice none 0 0,.string ⟨#[]⟩,.string ⟨#[]⟩,.string ⟨#[]⟩,.string ⟨#[]⟩,.bool false,.bool false] 99)):=(Below.refl _ _).alloc (Nat.le_refl _) _
 have HFR:Hid (FR (w1.alloc (.cells #[.int .u8 0,.int .u8 0,.slice none 0 0,.string ⟨#[]⟩,.string ⟨#[]⟩,.string ⟨#[]⟩,.string ⟨#[]⟩,.bool false,.bool false] 99)) w1.heap.size w1.heap.size 500000 0 st0):=Hd ⟨Nat.le_refl _,⟨⟨⟨⟨by decide,by decide⟩,by decide,by decide⟩,Nat.le_refl 0⟩,fun k hk=>by cases hk⟩,none,0,fun _=>none,fun _=>0,HRB.out,World.ownsRow_nil _ _ _ _,fun j hj=>absurd hj (Nat.not_lt_zero _),fun j hj=>absurd hj (Nat.not_lt_zero _)⟩
 have HB2:=Hd hB2
 generalize w1.alloc (.cells #[.int .u8 0,.int .u8 0,.slice none 0 0,.string ⟨#[]⟩,.string ⟨#[]⟩,.string ⟨#[]⟩,.string ⟨#[]⟩,.bool false,.bool false] 99)=w2 at HFR HB2 ⊢
 clear HRB hB2
 have hwB:w.heap.size<w1.heap.size:=Qan HP1.out
 go_loopw [24] (fun i wr=>∃ (j:Nat) (st:FSt),j<=n/\i=.int .i64 j/\Hid (FR wr w1.heap.size w1.heap.size 500000 j st)/\Hid (Below w1.heap.size w1 wr)/\Hid (linesF E st0 0 Ls=linesF E st j (Ls.drop j))) (fun i _=>n-(intOf i).toNat)
 case atStart=>exact ⟨0,st0,Nat.zero_le _,rfl,HFR,HB2,Hd (by rw [List.drop_zero];rfl)⟩
 case round=>
  clear HFR HB2
  obtain ⟨j,st,hj,rfl,HFR,HB,HJ⟩:=hrel
  have HPr:=Hd (Qaa HP1.out HB.out)
  have HMr:=Hd ((HB.out.cell (p:=⟨2,0,none⟩) (World.block_lt_of_cell? _ _ HM1.out)).trans HM1.out)
  have HBw:Hid (Below w.heap.size w wr):=Hd (HB1.out.trans (HB.out.mono HB1.out.size))
  rcases Nat.lt_or_ge j n with hlt | hge
  ·have hltL:j<Ls.length:=by rw [HN.out];exact hlt
   obtain ⟨g,off,rfl,hg,hc⟩:=(HST.out.below HB.out).cells (by rw [List.length_map,HN.out];omega)
   have hcj:=hc j (by rw [List.length_map];exact hltL)
   have hwd:wd (Ls.map bs) j=bs Ls[j]:=by unfold wd;simp [List.getD_eq_getElem?_getD,hltL]
   rw [hwd] at hcj
   have hsz:(bs Ls[j]).size<=500000:=Nat.le_trans (HSZ.out _ (List.mem_map.2 ⟨Ls[j],List.getElem_mem _,rfl⟩)) HHS.out
   have hstep:=linesF_step (e:=E) (st:=st) (i:=j) hltL
   obtain ⟨s,hs⟩:=ex_ (bs Ls[j])
   have hkz:=HKL.out Ls[j] (List.getElem_mem _)
   rw [hs] at hcj hsz hstep hkz
   have HLI:=Hd (line_c w1.heap.size w1.heap.size 500000 j m0 st s wr (by omega) (by decide) hsz HMr.out HFR.out hkz)
   obtain ⟨O,hO⟩:=ex_ (lineF st s)
   rw [hO] at HLI hstep
   have HSTEP:=Hd hstep
   clear hc hwd hs hO hstep hltL hkz
   go_wp2_with fail
   refine HLI.out.mono ?_
   rintro e w3 ⟨rfl,hfr,hb3,-⟩
   have HB3:=Hd (HB.out.trans hb3)
   have HP3:=Hd (Qaa HP1.out HB3.out)
   have HBw3:Hid (Below w.heap.size w w3):=Hd (HB1.out.trans (HB3.out.mono HB1.out.size))
   have HF3:=Hd hfr
   clear hfr hb3 HLI
   obtain ⟨⟨r0,r1,r2,r3,r4,r5,r6⟩,⟨y0,y1,y2,y3,y4,y5,y6⟩,r7⟩:=obox7f HP3.out
   cases hO:O with
   | none=>
    have HE:=Hd (show R=(fmt0,(j:Int)+1,10) by rw [HRR.out,HJ.out,HSTEP.out,hO])
    subst hO
    go_wp2
    clear r0 r1 r2 r3 r4 r5 r6 r7 y0 y1 y2 y3 y4 y5 y6
    obtain ⟨⟨r0,r1,r2,r3,r4,r5,r6⟩,⟨y0,y1,y2,y3,y4,y5,y6⟩,r7⟩:=obox7f (rb_set (a:=.int .u8 0) (b:=.int .u8 0) (c:=.slice none 0 0) (d:=.string ⟨#[]⟩) (e:=.string ⟨#[]⟩) (f:=.string ⟨#[]⟩) (i:=.string ⟨#[]⟩) HP3.out)
    exact bodyPost_ret (v:=.tuple #[.agg #[.int .u8 0,.int .u8 0,.slice none 0 0,.string ⟨#[]⟩,.string ⟨#[]⟩,.string ⟨#[]⟩,.string ⟨#[]⟩],.int .i64 ((j:Int)+1),.int .i64 10]) (by simp [results,Tryz.results35,go_sem,r0,r1,r2,r3,r4,r5,r6]) rfl (RetRF.no HE.out (rb_below HBw3.out (Nat.le_refl _)))
   | some st'=>
    have HF4:=Hd (HF3.out st' hO)
    rw [hO] at HSTEP
    subst hO
    have HSTEP:=HSTEP
    cases E with
    | true=>
     have HJ2:=Hd (show linesF true st0 0 Ls=linesF true st' ((j+1:Nat):Int) (Ls.drop (j+1)) by
      rw [HJ.out,HSTEP.out]
      simp only
      rw [if_neg (fun k=>by cases k.1)];rfl)
     go_wp2
     go_roundw
     case rel=>exact ⟨j+1,st',by omega,by go_num,HF4,HB3,HJ2⟩
     case measure=>simp [intOf];omega
    | false=>
     by_cases hlast:j+1=n
     ·have HE:=Hd (show R=(fmt0,(j:Int)+1,10) by
       rw [HRR.out,HJ.out,HSTEP.out]
       simp only
       rw [if_pos ⟨trivial,by rw [HN.out];exact hlast⟩])
      have e1:((j:Int)==(n:Int)-1)=true:=by
       have:(j:Int)=(n:Int)-1:=by omega
       rw [this];simp
      go_wp2
      clear r0 r1 r2 r3 r4 r5 r6 r7 y0 y1 y2 y3 y4 y5 y6
      obtain ⟨⟨r0,r1,r2,r3,r4,r5,r6⟩,⟨y0,y1,y2,y3,y4,y5,y6⟩,r7⟩:=obox7f (rb_set (a:=.int .u8 0) (b:=.int .u8 0) (c:=.slice none 0 0) (d:=.string ⟨#[]⟩) (e:=.string ⟨#[]⟩) (f:=.string ⟨#[]⟩) (i:=.string ⟨#[]⟩) HP3.out)
      exact bodyPost_ret (v:=.tuple #[.agg #[.int .u8 0,.int .u8 0,.slice none 0 0,.string ⟨#[]⟩,.string ⟨#[]⟩,.string ⟨#[]⟩,.string ⟨#[]⟩],.int .i64 ((j:Int)+1),.int .i64 10]) (by simp [results,Tryz.results35,go_sem,r0,r1,r2,r3,r4,r5,r6]) rfl (RetRF.no HE.out (rb_below HBw3.out (Nat.le_refl _)))
     ·have HJ2:=Hd (show linesF false st0 0 Ls=linesF false st' ((j+1:Nat):Int) (Ls.drop (j+1)) by
       rw [HJ.out,HSTEP.out]
       simp only
       rw [if_neg (fun k=>hlast (by rw [<- HN.out];exact k.2))];rfl)
      have e1:((j:Int)==(n:Int)-1)=false:=by
       have:¬ (j:Int)=(n:Int)-1:=by omega
       simpa using this
      clear hlast
      go_wp2
      go_roundw
      case rel=>exact ⟨j+1,st',by omega,by go_num,HF4,HB3,HJ2⟩
      case measure=>simp [intOf];omega
  ·obtain rfl:j=n:=by omega
   have hend:linesF E st0 0 Ls=.inl st:=by
    rw [HJ.out,<- HN.out,List.drop_length];rfl
   have HEND:=Hd (show R=if st.ended=false then (fmt0,(j:Int)+1,10) else if Qao st.f≠0 then (fmt0,0,Qao st.f) else (st.f,0,0) by
    rw [HRR.out,hend,HN.out])
   clear hend HJ hge hj
   obtain ⟨-,hok,A,c,FA,FC,hh,hK⟩:=HFR.out
   have HOK:=Hd hok
   have HKO:=Hd hK
   have HKI:=Hd (hK.kinds_ (hok.size (by decide)))
   have hcap:=Qal hK.kinds
   obtain ⟨f,bg,en⟩:=st
   have HCH:=Hd (fun h=>check_c f A c FA FC wr h hcap.1 hok.1.1.1 hok.1.1.2)
   obtain ⟨m,q,ks,hd,tl,ct,sm⟩:=f
   unfold frC at hh
   unfold fmtG at HCH
   simp only at hh HCH HKI HKO HEND HOK hcap
   obtain ⟨nk,hnk⟩:=ex_ (ks.length)
   have HNK:=Hd hnk
   rw [hnk] at hh HCH hcap
   unfold maxLen at hcap
   have HH:=Hd hh
   obtain ⟨⟨⟨g0,g1,g2,g3,g4,g5,g6,g7,g8⟩,z0,z1,z2,z3,z4,z5,z6,z7,z8⟩,hlt⟩:=obox9 hh
   obtain ⟨⟨r0,r1,r2,r3,r4,r5,r6⟩,⟨y0,y1,y2,y3,y4,y5,y6⟩,r7⟩:=obox7f HPr.out
   clear hok hh hK hnk HFR
   cases en with
   | false=>
    have HE:=Hd (show R=(fmt0,(j:Int)+1,10) by rw [HEND.out,if_pos rfl])
    go_wp2
    clear r0 r1 r2 r3 r4 r5 r6 r7 y0 y1 y2 y3 y4 y5 y6
    obtain ⟨⟨r0,r1,r2,r3,r4,r5,r6⟩,⟨y0,y1,y2,y3,y4,y5,y6⟩,r7⟩:=obox7f (rb_set (a:=.int .u8 0) (b:=.int .u8 0) (c:=.slice none 0 0) (d:=.string ⟨#[]⟩) (e:=.string ⟨#[]⟩) (f:=.string ⟨#[]⟩) (i:=.string ⟨#[]⟩) HPr.out)
    exact bodyPost_ret (v:=.tuple #[.agg #[.int .u8 0,.int .u8 0,.slice none 0 0,.string ⟨#[]⟩,.string ⟨#[]⟩,.string ⟨#[]⟩,.string ⟨#[]⟩],.int .i64 ((j:Int)+1),.int .i64 10]) (by simp [results,Tryz.results35,go_sem,r0,r1,r2,r3,r4,r5,r6]) rfl (RetRF.no HE.out (rb_below HBw.out (Nat.le_refl _)))
   | true=>
    obtain ⟨X,hX⟩:=ex_ (Qao ⟨m,q,ks,hd,tl,ct,sm⟩)
    rw [hX] at HCH HEND
    go_wp2_with fail
    refine (HCH.out HKI.out).mono ?_
    rintro e w3 ⟨rfl,hb3⟩
    have HP3:=Hd (Qaa HPr.out hb3)
    have HBw3:Hid (Below w.heap.size w w3):=Hd (HBw.out.trans (hb3.mono HBw.out.size))
    have HK3:Hid (KOwn w3 w1.heap.size A c ks FA FC):=Hd (HKO.out.keep (fun g cs hh=>Qaa hh hb3) (fun g cs hh=>Qaa hh hb3))
    have HH3:=Hd (Qaa HH.out hb3)
    clear hb3 hX
    clear r0 r1 r2 r3 r4 r5 r6 r7 y0 y1 y2 y3 y4 y5 y6
    clear g0 g1 g2 g3 g4 g5 g6 g7 g8 z0 z1 z2 z3 z4 z5 z6 z7 z8 hlt
    obtain ⟨⟨⟨g0,g1,g2,g3,g4,g5,g6,g7,g8⟩,z0,z1,z2,z3,z4,z5,z6,z7,z8⟩,hlt⟩:=obox9 HH3.out
    obtain ⟨⟨r0,r1,r2,r3,r4,r5,r6⟩,⟨y0,y1,y2,y3,y4,y5,y6⟩,r7⟩:=obox7f HP3.out
    by_cases hx:X=0
    ·subst hx
     have HE:=Hd (show R=(⟨m,q,ks,hd,tl,ct,sm⟩,0,0) by rw [HEND.out,if_neg (by decide),if_neg (by decide)])
     go_wp2
     clear r0 r1 r2 r3 r4 r5 r6 r7 y0 y1 y2 y3 y4 y5 y6
     have hrs:=rb_set (a:=.int .u8 m) (b:=.int .u8 q) (c:=.slice A nk c) (d:=.string hd) (e:=.string tl) (f:=.string ct) (i:=.string sm) HP3.out
     obtain ⟨⟨r0,r1,r2,r3,r4,r5,r6⟩,⟨y0,y1,y2,y3,y4,y5,y6⟩,r7⟩:=obox7f hrs
     have hbn:Below w3.heap.size w3 w3:=Below.refl _ _
     refine bodyPost_ret (v:=.tuple #[.agg #[.int .u8 m,.int .u8 q,.slice A nk c,.string hd,.string tl,.string ct,.string sm],.int .i64 0,.int .i64 0]) (by simp [results,Tryz.results35,go_sem,r0,r1,r2,r3,r4,r5,r6]) rfl ⟨⟨m,q,ks,hd,tl,ct,sm⟩,A,c,FA,FC,0,0,?_,HE.out,?_,?_,hcap.2,⟨HOK.out.1.1.1,HOK.out.1.1.2⟩,rb_below HBw3.out (Nat.le_refl _)⟩
     ·unfold fmtG
      simp only
      rw [HNK.out]
     ·exact KOwn.kinds_ (f:=⟨m,q,ks,hd,tl,ct,sm⟩) (HK3.out.keep (fun g cs hh=>rb_keep hh (QaJ hh HP3.out (by decide))) (fun g cs hh=>rb_keep hh (QaJ hh HP3.out (by decide)))) (HOK.out.size (by decide))
     ·simp only
      rw [HNK.out]
      exact hcap.1
    ·have HE:=Hd (show R=(fmt0,0,X) by rw [HEND.out,if_neg (by decide),if_pos hx])
     have hxa:(X !=0)=true:=by simpa using hx
     clear hx
     go_wp2
     clear r0 r1 r2 r3 r4 r5 r6 r7 y0 y1 y2 y3 y4 y5 y6
     obtain ⟨⟨r0,r1,r2,r3,r4,r5,r6⟩,⟨y0,y1,y2,y3,y4,y5,y6⟩,r7⟩:=obox7f (rb_set (a:=.int .u8 0) (b:=.int .u8 0) (c:=.slice none 0 0) (d:=.string ⟨#[]⟩) (e:=.string ⟨#[]⟩) (f:=.string ⟨#[]⟩) (i:=.string ⟨#[]⟩) HP3.out)
     exact bodyPost_ret (v:=.tuple #[.agg #[.int .u8 0,.int .u8 0,.slice none 0 0,.string ⟨#[]⟩,.string ⟨#[]⟩,.string ⟨#[]⟩,.string ⟨#[]⟩],.int .i64 0,.int .i64 X]) (by simp [results,Tryz.results35,go_sem,r0,r1,r2,r3,r4,r5,r6]) rfl (RetRF.no HE.out (rb_below HBw3.out (Nat.le_refl _)))
def awkT:ByteArray:=⟨#[109,97,114,107,101,100,32,53,57,32,48,10,107,105,110,100,32,76,32,48,32,45,10,101,110,100,115,32,45,32,45,32,45,32,45,10]⟩
theorem awk_read:readF awkT=(⟨59,0,[⟨⟨#[76]⟩,[],0,eS⟩],eS,eS,eS,eS⟩,0,0):=by decide +kernel
theorem awk_kinds:∀ l∈lnsL awkT.data.toList,kindW (wd (wrdS (bs l)) 0)=0:=fun l hl=>of_decide_eq_true (List.all_eq_true.1 (show ((lnsL awkT.data.toList).all fun l=>decide (kindW (wd (wrdS (bs l)) 0)=0))=true by decide +kernel) l hl)
theorem awake6_c (m0:Int) (w:World) (hm0:w.cell? ⟨2,0,none⟩=some (.int .i64 m0)) :
  Calls Tryz.prog 11 #[] w (RetB true w):=by
 have HR:=Hd (readfmt_c awkT m0 w hm0 awk_kinds)
 rw [awk_read] at HR
 clear hm0
 unfold awkT RetRF at HR
 go_enter Tryz.func11,Tryz.ntmps11
 go_wp2_with fail
 refine HR.out.mono ?_
 rintro e w1 ⟨f,A,c,FA,FC,n,x,rfl,hR,-,-,-,-,hb1⟩
 injection hR with h1 h2
 injection h2 with h2 h3
 subst h1;subst h2;subst h3
 have hs1:=hb1.size
 unfold fmtG
 go_wp2
 go_ret
 exact ⟨rfl,hb1.alloc hs1 _⟩
end Go.Proofs.YtaiabjiehpcaoaaGreatDoor
namespace Go.Proofs.YtaiabjiehpcaoaaGreatDoor
open Go.RowKit Limb
set_option linter.unusedVariables false
set_option linter.unusedSimpArgs false
theorem nameC_yes {c:UInt8} (h:nameC c=true):(97<=c.toNat/\c.toNat<=122)∨(48<=c.toNat/\c.toNat<=57)∨(45<=c.toNat/\c.toNat<=45):=by
 unfold nameC lowB at h
 simp at h
 omega
theorem nameC_no {c:UInt8} (h:nameC c=false):c.toNat<45∨(46<=c.toNat/\c.toNat<=47)∨(58<=c.toNat/\c.toNat<=96)∨123<=c.toNat:=by
 unfold nameC lowB at h
 simp at h
 omega
theorem all_bad {l:List UInt8} {p:UInt8->Bool} (h:l.all p=false):∃ j,∃ hj:j<l.length,p l[j]=false/\∀ i,∀ hi:i<j,p (l[i]'(by omega))=true:=by
 induction l with
 | nil=>simp at h
 | cons c l ih=>
  cases hc:p c with
  | true=>
   have h2:l.all p=false:=by simpa [hc] using h
   obtain ⟨j,hj,h3,h4⟩:=ih h2
   refine ⟨j+1,by simpa using hj,by simpa using h3,fun i hi=>?_⟩
   cases i with
   | zero=>simpa using hc
   | succ i=>simpa using h4 i (by omega)
  | false=>exact ⟨0,by simp,by simpa using hc,fun i hi=>by omega⟩
theorem risname_c (s:ByteArray) (w:World) (hs:s.size<=9223372036854775807) :
  Calls Tryz.prog 212 #[.string s] w (RetB (Qbt s.data.toList) w):=by
 have hlen:s.data.toList.length=s.size:=by simp
 by_cases h1:1<=s.size/\s.size<=40
 ·obtain ⟨h1,h2⟩:=h1
  have hh:=head_at (s:=s) (by omega)
  have en:Qbt s.data.toList=(lowB s[0]&&s.data.toList.all nameC):=by
   unfold Qbt;rw [hlen,hh,decide_eq_true ⟨h1,h2⟩,Bool.true_and]
  have hemp:s.toList.isEmpty=false:=by
   rw [Lib.toList_data]
   cases hd:s.data.toList with
   | nil=>rw [hd] at hlen;simp at hlen;omega
   | cons a l=>rfl
  by_cases h3:97<=s[0].toNat/\s[0].toNat<=122
  ·have en2:Qbt s.data.toList=s.data.toList.all nameC:=by
    rw [en];unfold lowB;rw [decide_eq_true h3,Bool.true_and]
   rw [en2]
   obtain ⟨h3,h4⟩:=h3
   have h3':¬ (s[0].toNat:Int)<97:=by omega
   have h4':¬ (122:Int)<(s[0].toNat:Int):=by omega
   clear en en2 hh h3 h4
   cases hb:s.data.toList.all nameC with
   | true=>
    have HB:=Hd hb
    clear hb hlen
    go_enter Tryz.func212,Tryz.ntmps212
    go_wp2
    go_loop [24] (fun i=>∃ j:Nat,j<=s.size/\i=.int .i64 j) (fun i=>s.size-(intOf i).toNat)
    case atStart=>exact ⟨0,Nat.zero_le _,rfl⟩
    case round=>
     obtain ⟨j,hj,rfl⟩:=hrel
     rcases Nat.lt_or_ge j s.size with hjn | hjn
     ·have hc:=List.all_eq_true.1 HB.out _ (List.getElem_mem (l:=s.data.toList) (n:=j) (by simpa using hjn))
      rw [QbA s j hjn] at hc
      rcases nameC_yes hc with ⟨k1,k2⟩|⟨k1,k2⟩|⟨k1,k2⟩
      all_goals
       clear hc h3' h4' hemp
       go_wp2
       go_round
       case rel=>exact ⟨j+1,by omega,by go_num⟩
       case measure=>simp [intOf];omega
     ·go_wp2
      go_ret
      exact ⟨rfl,Below.refl _ _⟩
   | false=>
    obtain ⟨m,hm,hbad,hgood⟩:=all_bad hb
    have hm':m<s.size:=by simpa using hm
    have HBAD:=Hd hbad;have HGOOD:=Hd hgood
    clear hb hlen hbad hgood
    go_enter Tryz.func212,Tryz.ntmps212
    go_wp2
    go_loop [24] (fun i=>∃ j:Nat,j<=m/\i=.int .i64 j) (fun i=>s.size-(intOf i).toNat)
    case atStart=>exact ⟨0,Nat.zero_le _,rfl⟩
    case round=>
     obtain ⟨j,hj,rfl⟩:=hrel
     have hjn:j<s.size:=by omega
     rcases Nat.lt_or_ge j m with hjm | hjm
     ·have hc:=HGOOD.out j hjm
      rw [QbA s j hjn] at hc
      rcases nameC_yes hc with ⟨k1,k2⟩|⟨k1,k2⟩|⟨k1,k2⟩
      all_goals
       clear hc h3' h4' hemp
       go_wp2
       go_round
       case rel=>exact ⟨j+1,by omega,by go_num⟩
       case measure=>simp [intOf];omega
     ·obtain rfl:j=m:=by omega
      have hc:=HBAD.out
      rw [QbA s j hjn] at hc
      have hne:((s[j].toNat:Int) !=45)=true:=by
       have:=nameC_no hc
       simp;omega
      rcases nameC_no hc with k1 | ⟨k1,k2⟩|⟨k1,k2⟩ | k1
      all_goals
       clear hc h3' h4' hemp
       go_wp2
       go_ret
       exact ⟨rfl,Below.refl _ _⟩
  ·have en2:Qbt s.data.toList=false:=by rw [en];unfold lowB;rw [decide_eq_false h3];rfl
   rw [en2]
   clear en en2 hh hlen
   by_cases h4:s[0].toNat<97
   ·have h4':(s[0].toNat:Int)<97:=by omega
    clear h3
    go_enter Tryz.func212,Tryz.ntmps212
    go_wp2
    go_ret
    exact ⟨rfl,Below.refl _ _⟩
   ·have h4':¬ (s[0].toNat:Int)<97:=by omega
    have h5':(122:Int)<(s[0].toNat:Int):=by omega
    clear h3 h4
    go_enter Tryz.func212,Tryz.ntmps212
    go_wp2
    go_ret
    exact ⟨rfl,Below.refl _ _⟩
 ·have en:Qbt s.data.toList=false:=by unfold Qbt;rw [hlen,decide_eq_false h1];rfl
  rw [en]
  clear en
  by_cases h2:s.size<1
  ·have hemp:s.toList.isEmpty=true:=by
    rw [Lib.toList_data]
    cases hd:s.data.toList with
    | nil=>rfl
    | cons a l=>rw [hd] at hlen;simp at hlen;omega
   clear h1 hlen
   go_enter Tryz.func212,Tryz.ntmps212
   go_wp2
   go_ret
   exact ⟨rfl,Below.refl _ _⟩
  ·have hemp:s.toList.isEmpty=false:=by
    rw [Lib.toList_data]
    cases hd:s.data.toList with
    | nil=>rw [hd] at hlen;simp at hlen;omega
    | cons a l=>rfl
   have h3:40<s.size:=by omega
   clear h1 hlen
   go_enter Tryz.func212,Tryz.ntmps212
   go_wp2
   go_ret
   exact ⟨rfl,Below.refl _ _⟩
theorem risname2_c (s:ByteArray) (w:World) (hs:s.size<=9223372036854775807) :
  Calls Tryz.prog 163 #[.string s] w (RetB (Qbt s.data.toList) w):=by
 have HN:=Hd (risname_c s w hs)
 generalize Qbt s.data.toList=b at HN
 go_enter Tryz.func163,Tryz.ntmps163
 go_wp2_with fail
 refine HN.out.mono ?_
 rintro e w2 ⟨rfl,hb2⟩
 go_wp2
 go_ret
 exact ⟨rfl,hb2⟩
end Go.Proofs.YtaiabjiehpcaoaaGreatDoor
