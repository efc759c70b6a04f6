
/- The walk of the reference's Same at equal rows. -/
import Derived.Test.YtaiabjiehpcaoaaGreatDoorY1
set_option maxHeartbeats 2000000
set_option maxRecDepth 100000
namespace Go.Proofs.YtaiabjiehpcaoaaGreatDoor
open Go.RowKit Limb Nmb Work
set_option linter.unusedVariables false
set_option linter.unusedSimpArgs false
theorem zeqstrs_q (L:List ByteArray) (A B:Option Addr) (c d:Nat) (w:World) (ha:Svs w A L) (hb:Svs w B L) (hm:L.length<=9223372036854775807) :
  Calls Tryz.prog 30 #[.slice A L.length c,.slice B L.length d] w fun e w'=>e=.returned (.bool true)/\∃ q,w'=w.drewN q:=by
 have HA:=Hd ha;have HB:=Hd hb
 obtain ⟨n,hnn⟩:=ex_ (L.length)
 have HN:=Hd hnn
 rw [hnn] at hm ⊢
 clear ha hb hnn
 go_enter Tryz.func30,Tryz.ntmps30
 go_wp2
 go_loopw [13] (fun y wx=>∃ j:Nat,j<=n/\y=.int .i64 j/\∃ q,wx=w.drewN q) (fun y _=>n-(intOf y).toNat)
 case atStart=>exact ⟨0,Nat.zero_le _,rfl,0,rfl⟩
 case round=>
  obtain ⟨j,hj,rfl,q,rfl⟩:=hrel
  rcases Nat.lt_or_ge j n with hlt | hge
  ·obtain ⟨a,oa,rfl,-,ca⟩:=HA.out (by rw [HN.out];omega)
   obtain ⟨b,ob,rfl,-,cb⟩:=HB.out (by rw [HN.out];omega)
   have a0:=ca j (by rw [HN.out];exact hlt)
   have b0:=cb j (by rw [HN.out];exact hlt)
   obtain ⟨s,hs⟩:=ex_ (wd L j)
   rw [hs] at a0 b0
   clear ca cb hs
   go_wp2_with fail
   go_quiet (fail)
   have e:(w.drewN q).drewN nq=w.drewN (q+nq):=World.drewN_drewN _ _ _
   rw [e]
   go_wp2
   go_roundw
   case rel=>exact ⟨j+1,by omega,by go_num,q+nq,rfl⟩
   case measure=>simp [intOf];omega
  ·obtain rfl:j=n:=by omega
   go_wp2
   go_ret
   exact ⟨rfl,q,rfl⟩
theorem same_q (L L':Option Addr) (LC LC':Nat) (rs:List RowP) (RA RA':Nat->Option Addr) (RC RC':Nat->Nat) (w:World) (h:RowsM w L rs RA RC) (h':RowsM w L' rs RA' RC') :
  Calls Tryz.prog 7 #[.slice L rs.length LC,.slice L' rs.length LC'] w fun e w'=>e=.returned (.bool true)/\∃ q,w'=w.drewN q:=by
 have HA:=Hd h;have HB:=Hd h'
 have hm:=h.len
 obtain ⟨n,hnn⟩:=ex_ (rs.length)
 have HN:=Hd hnn
 rw [hnn] at hm ⊢
 clear h h' hnn
 go_enter Tryz.func7,Tryz.ntmps7
 go_wp2
 go_loopw [13] (fun y wx=>∃ j:Nat,j<=n/\y=.int .i64 j/\∃ q,wx=w.drewN q) (fun y _=>n-(intOf y).toNat)
 case atStart=>exact ⟨0,Nat.zero_le _,rfl,0,rfl⟩
 case round=>
  obtain ⟨j,hj,rfl,q,hq⟩:=hrel
  have HQ:=Hd hq
  have HBW:=Hd (show Below w.heap.size w wr by rw [hq];exact below_drewN (Below.refl _ _) _)
  have HA:=Hd (HA.out.below HBW.out);have HB:=Hd (HB.out.below HBW.out)
  clear hq
  rcases Nat.lt_or_ge j n with hlt | hge
  ·obtain ⟨a,oa,rfl,-,a0,a1⟩:=HA.out.cells (j:=j) (by rw [HN.out];exact hlt)
   obtain ⟨b,ob,rfl,-,b0,b1⟩:=HB.out.cells (j:=j) (by rw [HN.out];exact hlt)
   have HE:=Hd (fun w ha hb hm=>zeqstrs_q (rA rs j).vals (RA j) (RA' j) (RC j) (RC' j) w ha hb hm)
   have HVA:=Hd (HA.out.each j (by rw [HN.out];exact hlt)).vals
   have HVB:=Hd (HB.out.each j (by rw [HN.out];exact hlt)).vals
   have HLN:=Hd (HA.out.each j (by rw [HN.out];exact hlt)).len
   obtain ⟨⟨tg,vs⟩,hr⟩:=ex_ (rA rs j)
   rw [hr] at a0 a1 b0 b1 HE HVA HVB HLN
   generalize RA j=XA at a1 HE HVA HLN
   generalize RC j=XC at a1 HE HVA HLN
   generalize RA' j=YA at b1 HE HVB
   generalize RC' j=YC at b1 HE HVB
   simp only at a0 a1 b0 b1 HE HVA HVB HLN
   have HL:=Hd (Nat.le_trans HLN.out.1 HLN.out.2)
   obtain ⟨nv,hnv⟩:=ex_ (vs.length)
   rw [hnv] at a1 b1 HE HL
   clear hr hnv HLN
   have ht:(tg.toList==tg.toList)=true:=by simp
   go_wp2_with fail
   go_quiet ((go_at_call 30;exact Calls.quiet_of (HE.out _ (HVA.out.below (below_drewN (Below.refl _ _) _)) (HVB.out.below (below_drewN (Below.refl _ _) _)) HL.out)))
   have HQ2:=Hd (show wr.drewN nq=w.drewN (q+nq) by rw [HQ.out];exact World.drewN_drewN _ _ _)
   go_wp2
   go_roundw
   case rel=>exact ⟨j+1,by omega,by go_num,q+nq,HQ2.out⟩
   case measure=>simp [intOf];omega
  ·obtain rfl:j=n:=by omega
   go_wp2
   go_ret
   exact ⟨rfl,q,HQ.out⟩
theorem same_c (L L':Option Addr) (LC LC':Nat) (rs:List RowP) (RA RA':Nat->Option Addr) (RC RC':Nat->Nat) (w:World) (h:RowsM w L rs RA RC) (h':RowsM w L' rs RA' RC') :
  Calls Tryz.prog 7 #[.slice L rs.length LC,.slice L' rs.length LC'] w (RetB true w) :=
 (same_q L L' LC LC' rs RA RA' RC RC' w h h').mono fun _ _ ⟨he,q,hq⟩=>⟨he,by subst hq;exact below_drewN (Below.refl _ _) _⟩
end Go.Proofs.YtaiabjiehpcaoaaGreatDoor
