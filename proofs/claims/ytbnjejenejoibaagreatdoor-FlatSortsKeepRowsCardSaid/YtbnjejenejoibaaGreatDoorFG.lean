
/- The walk of ReadFormat, and of awake. -/
import Derived.Test.YtbnjejenejoibaaGreatDoorFF
namespace Go.Proofs.YtbnjejenejoibaaGreatDoor
open Go.RowKit Limb Nmb Work
set_option linter.unusedVariables false
set_option linter.unusedSimpArgs false
theorem linesF_step {e : Bool} {st : FSt} {i : Int} {Ls : List (List UInt8)} {j : Nat} (h : j < Ls.length) : linesF e st i (Ls.drop j) = match lineF st (bs Ls[j]) with
  | none => .inr (i + 1)
  | some st' => if e = false /\ j + 1 = Ls.length then .inr (i + 1) else linesF e st' (i + 1) (Ls.drop (j + 1)) := by
 rw [List.drop_eq_getElem_cons h]
 show (match lineF st (bs Ls[j]) with | none => _ | some st' => _) = _
 cases lineF st (bs Ls[j]) with
 | none => rfl
 | some st' =>
  simp only
  have e1 : (e = false /\ Ls.drop (j + 1) = []) ↔ (e = false /\ j + 1 = Ls.length) := by
   rw [List.drop_eq_nil_iff]
   constructor
   ·rintro ⟨a, b⟩; exact ⟨a, by omega⟩
   ·rintro ⟨a, b⟩; exact ⟨a, by omega⟩
  by_cases hc : e = false /\ j + 1 = Ls.length
  ·rw [if_pos hc, if_pos (e1.2 hc)]
  ·rw [if_neg hc, if_neg (fun k => hc (e1.1 k))]
def FmtRng (f : Fmt) : Prop := (0 <= f.mark /\ f.mark <= 255) /\ (0 <= f.quote /\ f.quote <= 255)
def RetRF (R : Fmt × Int × Int) (w : World) (e : Ending) (w' : World) : Prop :=
 ∃ f A c FA FC n x, e = .returned (.tuple #[fmtG f A c, .int .i64 n, .int .i64 x]) /\ R = (f, n, x) /\ Kinds w' A f.kinds FA FC /\ f.kinds.length <= c /\ c <= 9223372036854775807 /\ FmtRng f /\ Below w.heap.size w w'
theorem kinds_nil (w : World) : Kinds w none [] (fun _ => none) (fun _ => 0) := ⟨⟨fun k hk => (by cases hk), by decide⟩, fun h => absurd h (by decide), fun j hj => absurd hj (Nat.not_lt_zero _)⟩
theorem RetRF.no {R : Fmt × Int × Int} {w w' : World} {n x : Int} (h : R = (fmt0, n, x)) (hb : Below w.heap.size w w') : RetRF R w (.returned (.tuple #[.agg #[.int .u8 0, .int .u8 0, .slice none 0 0, .string ⟨#[]⟩, .string ⟨#[]⟩, .string ⟨#[]⟩, .string ⟨#[]⟩], .int .i64 n, .int .i64 x])) w' :=
 ⟨fmt0, none, 0, _, _, n, x, rfl, h, kinds_nil w', Nat.le_refl 0, by omega, ⟨⟨by decide, by decide⟩, by decide, by decide⟩, hb⟩
theorem obox7f {w : World} {g : Nat} {a b c d e f i : Value} {T : TypeId} (h : w.heap[g]? = some (.cells #[a, b, c, d, e, f, i] T (0, 0))) :
  (w.cell? ⟨g, 0, none⟩ = some a /\ w.cell? ⟨g, 1, none⟩ = some b /\ w.cell? ⟨g, 2, none⟩ = some c /\ w.cell? ⟨g, 3, none⟩ = some d /\ w.cell? ⟨g, 4, none⟩ = some e /\ w.cell? ⟨g, 5, none⟩ = some f /\ w.cell? ⟨g, 6, none⟩ = some i) /\
   (w.frozen? ⟨g, 0, none⟩ = false /\ w.frozen? ⟨g, 1, none⟩ = false /\ w.frozen? ⟨g, 2, none⟩ = false /\ w.frozen? ⟨g, 3, none⟩ = false /\ w.frozen? ⟨g, 4, none⟩ = false /\ w.frozen? ⟨g, 5, none⟩ = false /\ w.frozen? ⟨g, 6, none⟩ = false) /\ g < w.heap.size := by
 obtain ⟨h1, h2, h3⟩ := obox h
 exact ⟨⟨h1 0 _ rfl, h1 1 _ rfl, h1 2 _ rfl, h1 3 _ rfl, h1 4 _ rfl, h1 5 _ rfl, h1 6 _ rfl⟩, ⟨h2 0 (by simp), h2 1 (by simp), h2 2 (by simp), h2 3 (by simp), h2 4 (by simp), h2 5 (by simp), h2 6 (by simp)⟩, h3⟩
theorem FmtOk.size {f : Fmt} {S T N : Nat} (h : FmtOk f S N) (hm : S <= T) : FmtOk f T N := ⟨h.1, fun k hk => ⟨⟨⟨Nat.le_trans (h.2 k hk).1.1.1 hm, Nat.le_trans (h.2 k hk).1.1.2 hm⟩, (h.2 k hk).1.2⟩, fun c hc => Nat.le_trans ((h.2 k hk).2 c hc) hm⟩⟩
theorem rb_set {w : World} {g : Nat} {a b c d e f i a' b' c' d' e' f' i' : Value} {T : TypeId} (h : w.heap[g]? = some (.cells #[a', b', c', d', e', f', i'] T (0, 0))) :
  (((((((w.setCell ⟨g, 0, none⟩ a).setCell ⟨g, 1, none⟩ b).setCell ⟨g, 2, none⟩ c).setCell ⟨g, 3, none⟩ d).setCell ⟨g, 4, none⟩ e).setCell ⟨g, 5, none⟩ f).setCell ⟨g, 6, none⟩ i).heap[g]? = some (.cells #[a, b, c, d, e, f, i] T (0, 0)) := by
 have := heap_set (heap_set (heap_set (heap_set (heap_set (heap_set (heap_set h 0 a) 1 b) 2 c) 3 d) 4 e) 5 f) 6 i
 simpa using this
theorem rb_keep {w : World} {g k : Nat} {a b c d e f i : Value} {o : Obj} (h : w.heap[k]? = some o) (hk : k ≠ g) :
  (((((((w.setCell ⟨g, 0, none⟩ a).setCell ⟨g, 1, none⟩ b).setCell ⟨g, 2, none⟩ c).setCell ⟨g, 3, none⟩ d).setCell ⟨g, 4, none⟩ e).setCell ⟨g, 5, none⟩ f).setCell ⟨g, 6, none⟩ i).heap[k]? = some o :=
 heap_far (heap_far (heap_far (heap_far (heap_far (heap_far (heap_far h (p := ⟨g, 0, none⟩) hk a) (p := ⟨g, 1, none⟩) hk b) (p := ⟨g, 2, none⟩) hk c) (p := ⟨g, 3, none⟩) hk d) (p := ⟨g, 4, none⟩) hk e) (p := ⟨g, 5, none⟩) hk f) (p := ⟨g, 6, none⟩) hk i
theorem rb_below {B : Nat} {w w' : World} {g : Nat} {a b c d e f i : Value} (h : Below B w w') (hg : B <= g) : Below B w (((((((w'.setCell ⟨g, 0, none⟩ a).setCell ⟨g, 1, none⟩ b).setCell ⟨g, 2, none⟩ c).setCell ⟨g, 3, none⟩ d).setCell ⟨g, 4, none⟩ e).setCell ⟨g, 5, none⟩ f).setCell ⟨g, 6, none⟩ i) :=
 ((((((h.setCell (p := ⟨g, 0, none⟩) hg _).setCell (p := ⟨g, 1, none⟩) hg _).setCell (p := ⟨g, 2, none⟩) hg _).setCell (p := ⟨g, 3, none⟩) hg _).setCell (p := ⟨g, 4, none⟩) hg _).setCell (p := ⟨g, 5, none⟩) hg _).setCell (p := ⟨g, 6, none⟩) hg _
theorem bs_len (t : ByteArray) : ∀ s ∈ (lnsL t.data.toList).map bs, s.size <= t.size := by
 intro s hs
 obtain ⟨l, hl, rfl⟩ := List.mem_map.1 hs
 rw [bs_size]
 have h2 : t.data.toList.length = t.size := by simp
 rw [<- h2]
 unfold lnsL at hl
 split at hl
 ·cases hl
 ·split at hl
  ·have := pcs_sum 10 _ l hl
   rw [List.length_dropLast] at this
   omega
  ·exact pcs_sum 10 _ l hl
theorem lns_cnt (t : ByteArray) : (lnsL t.data.toList).length <= t.size + 1 := by
 have h2 : t.data.toList.length = t.size := by simp
 unfold lnsL
 split
 ·simp
 ·split
  ·rw [pcs_len]
   have := List.count_le_length (a := (10 : UInt8)) (l := t.data.toList.dropLast)
   rw [List.length_dropLast] at this
   omega
  ·rw [pcs_len]
   have := List.count_le_length (a := (10 : UInt8)) (l := t.data.toList)
   omega
set_option maxHeartbeats 4000000 in
set_option maxRecDepth 100000 in
theorem readfmt_c (t : ByteArray) (m0 : Int) (w : World) (hm0 : w.cell? ⟨0, 0, none⟩ = some (.int .i64 m0)) (hnk : ∀ l ∈ lnsL t.data.toList, kindW (wd (wrdS (bs l)) 0) = 0) :
  Calls Tryz.prog 22 #[.string t] w (RetRF (readF t) w) := by
 obtain ⟨R, hR⟩ : ∃ x, readF t = x := ⟨_, rfl⟩
 rw [hR]
 have HR := Lib.hid hR
 clear hR
 have HP := Lib.hid (heap_new w (.cells #[.int .u8 0, .int .u8 0, .slice none 0 0, .string ⟨#[]⟩, .string ⟨#[]⟩, .string ⟨#[]⟩, .string ⟨#[]⟩] 24) rfl)
 by_cases hs : t.size <= 500000
 case neg =>
  have h1 : (500000 : Int) < (t.size : Int) := by omega
  have HE := Lib.hid (show R = (fmt0, 0, 2) by rw [<- HR.out]; unfold readF; rw [if_pos (by omega)])
  clear hs
  go_enter Tryz.func22, Tryz.ntmps22
  have HB := (Below.refl w.heap.size w).alloc (Nat.le_refl _) (.cells #[.int .u8 0, .int .u8 0, .slice none 0 0, .string ⟨#[]⟩, .string ⟨#[]⟩, .string ⟨#[]⟩, .string ⟨#[]⟩] 24)
  go_wp2
  obtain ⟨⟨r0, r1, r2, r3, r4, r5, r6⟩, -⟩ := obox7 (HP.out)
  exact bodyPost_ret (v := .tuple #[.agg #[.int .u8 0, .int .u8 0, .slice none 0 0, .string ⟨#[]⟩, .string ⟨#[]⟩, .string ⟨#[]⟩, .string ⟨#[]⟩], .int .i64 0, .int .i64 2]) (by simp [results, Tryz.results22, go_sem, r0, r1, r2, r3, r4, r5, r6]) rfl (RetRF.no HE.out (HB))
 have h1 : ¬ (500000 : Int) < (t.size : Int) := by omega
 have HM : Hid ((w.alloc (.cells #[.int .u8 0, .int .u8 0, .slice none 0 0, .string ⟨#[]⟩, .string ⟨#[]⟩, .string ⟨#[]⟩, .string ⟨#[]⟩] 24)).cell? ⟨0, 0, none⟩ = some (.int .i64 m0)) := Lib.hid ((World.cell?_alloc_some w _ (.cells #[.int .u8 0, .int .u8 0, .slice none 0 0, .string ⟨#[]⟩, .string ⟨#[]⟩, .string ⟨#[]⟩, .string ⟨#[]⟩] 24) (by rw [hm0]; rfl)).trans hm0)
 have HLN := Lib.hid (lines_c t m0 (w.alloc (.cells #[.int .u8 0, .int .u8 0, .slice none 0 0, .string ⟨#[]⟩, .string ⟨#[]⟩, .string ⟨#[]⟩, .string ⟨#[]⟩] 24)) hs HM.out)
 obtain ⟨E, hE⟩ : ∃ x, lnsE t.data.toList = x := ⟨_, rfl⟩
 have hRR : readF t = (match linesF E st0 0 (lnsL t.data.toList) with | .inr n => (fmt0, n, 10) | .inl st => if st.ended = false then (fmt0, (lnsL t.data.toList).length + 1, 10) else if checkF st.f ≠ 0 then (fmt0, 0, checkF st.f) else (st.f, 0, 0)) := by
  unfold readF
  rw [if_neg (by omega), hE]
  rfl
 rw [HR.out] at hRR
 have hcnt := lns_cnt t
 have HSZ := Lib.hid (bs_len t)
 have HKL := Lib.hid hnk
 obtain ⟨Ls, hLs⟩ : ∃ x, lnsL t.data.toList = x := ⟨_, rfl⟩
 rw [hLs] at hRR hcnt HSZ HKL
 clear hnk
 have HRR := Lib.hid hRR
 unfold RetLs at HLN
 rw [hE, hLs] at HLN
 obtain ⟨n, hn⟩ : ∃ x, Ls.length = x := ⟨_, rfl⟩
 have HN := Lib.hid hn
 rw [hn] at HLN hcnt
 have HHS := Lib.hid hs
 clear hE hRR hLs hn hm0 hs HR
 go_enter Tryz.func22, Tryz.ntmps22
 go_wp2_with fail
 refine HLN.out.mono ?_
 rintro e w1 ⟨LA, rfl, hst, hb1⟩
 have HP1 := Lib.hid (heap_below HP.out hb1)
 have HM1 := Lib.hid ((hb1.cell (p := ⟨0, 0, none⟩) (World.block_lt_of_cell? _ _ HM.out)).trans HM.out)
 have HST := Lib.hid hst
 have HB1 : Hid (Below w.heap.size w w1) := Lib.hid (((Below.refl w.heap.size w).alloc (Nat.le_refl _) (.cells #[.int .u8 0, .int .u8 0, .slice none 0 0, .string ⟨#[]⟩, .string ⟨#[]⟩, .string ⟨#[]⟩, .string ⟨#[]⟩] 24)).trans (hb1.mono (by simp)))
 clear hst hb1 HLN HM HP
 go_wp2_with fail
 have HRB := Lib.hid (heap_new w1 (.cells #[.int .u8 0, .int .u8 0, .slice none 0 0, .string ⟨#[]⟩, .string ⟨#[]⟩, .string ⟨#[]⟩, .string ⟨#[]⟩, .bool false, .bool false] 118) rfl)
 have hB2 : Below w1.heap.size w1 (w1.alloc (.cells #[.int .u8 0, .int .u8 0, .slice none 0 0, .string ⟨#[]⟩, .string ⟨#[]⟩, .string ⟨#[]⟩, .string ⟨#[]⟩, .bool false, .bool false] 118)) := (Below.refl _ _).alloc (Nat.le_refl _) _
 have HFR : Hid (FR (w1.alloc (.cells #[.int .u8 0, .int .u8 0, .slice none 0 0, .string ⟨#[]⟩, .string ⟨#[]⟩, .string ⟨#[]⟩, .string ⟨#[]⟩, .bool false, .bool false] 118)) w1.heap.size w1.heap.size 500000 0 st0) := Lib.hid ⟨Nat.le_refl _, ⟨⟨⟨⟨by decide, by decide⟩, by decide, by decide⟩, Nat.le_refl 0⟩, fun k hk => by cases hk⟩, none, 0, fun _ => none, fun _ => 0, HRB.out, World.ownsRow_nil _ _ _ _, fun j hj => absurd hj (Nat.not_lt_zero _), fun j hj => absurd hj (Nat.not_lt_zero _)⟩
 have HB2 := Lib.hid hB2
 generalize w1.alloc (.cells #[.int .u8 0, .int .u8 0, .slice none 0 0, .string ⟨#[]⟩, .string ⟨#[]⟩, .string ⟨#[]⟩, .string ⟨#[]⟩, .bool false, .bool false] 118) = w2 at HFR HB2 ⊢
 clear HRB hB2
 have hwB : w.heap.size < w1.heap.size := lt_heap HP1.out
 go_loopw [24] (fun i wr => ∃ (j : Nat) (st : FSt), j <= n /\ i = .int .i64 j /\ Hid (FR wr w1.heap.size w1.heap.size 500000 j st) /\ Hid (Below w1.heap.size w1 wr) /\ Hid (linesF E st0 0 Ls = linesF E st j (Ls.drop j))) (fun i _ => n - (intOf i).toNat)
 case atStart => exact ⟨0, st0, Nat.zero_le _, rfl, HFR, HB2, Lib.hid (by rw [List.drop_zero]; rfl)⟩
 case round =>
  clear HFR HB2
  obtain ⟨j, st, hj, rfl, HFR, HB, HJ⟩ := hrel
  have HPr := Lib.hid (heap_below HP1.out HB.out)
  have HMr := Lib.hid ((HB.out.cell (p := ⟨0, 0, none⟩) (World.block_lt_of_cell? _ _ HM1.out)).trans HM1.out)
  have HBw : Hid (Below w.heap.size w wr) := Lib.hid (HB1.out.trans (HB.out.mono HB1.out.size))
  rcases Nat.lt_or_ge j n with hlt | hge
  ·have hltL : j < Ls.length := by rw [HN.out]; exact hlt
   obtain ⟨g, off, rfl, hg, hc⟩ := (HST.out.below HB.out).cells (by rw [List.length_map, HN.out]; omega)
   have hcj := hc j (by rw [List.length_map]; exact hltL)
   have hwd : wd (Ls.map bs) j = bs Ls[j] := by unfold wd; simp [List.getD_eq_getElem?_getD, hltL]
   rw [hwd] at hcj
   have hsz : (bs Ls[j]).size <= 500000 := Nat.le_trans (HSZ.out _ (List.mem_map.2 ⟨Ls[j], List.getElem_mem _, rfl⟩)) HHS.out
   have hstep := linesF_step (e := E) (st := st) (i := j) hltL
   obtain ⟨s, hs⟩ : ∃ x, bs Ls[j] = x := ⟨_, rfl⟩
   have hkz := HKL.out Ls[j] (List.getElem_mem _)
   rw [hs] at hcj hsz hstep hkz
   have HLI := Lib.hid (line_c w1.heap.size w1.heap.size 500000 j m0 st s wr (by omega) (by decide) hsz HMr.out HFR.out hkz)
   obtain ⟨O, hO⟩ : ∃ x, lineF st s = x := ⟨_, rfl⟩
   rw [hO] at HLI hstep
   have HSTEP := Lib.hid hstep
   clear hc hwd hs hO hstep hltL hkz
   go_wp2_with fail
   refine HLI.out.mono ?_
   rintro e w3 ⟨rfl, hfr, hb3, -⟩
   have HB3 := Lib.hid (HB.out.trans hb3)
   have HP3 := Lib.hid (heap_below HP1.out HB3.out)
   have HBw3 : Hid (Below w.heap.size w w3) := Lib.hid (HB1.out.trans (HB3.out.mono HB1.out.size))
   have HF3 := Lib.hid hfr
   clear hfr hb3 HLI
   obtain ⟨⟨r0, r1, r2, r3, r4, r5, r6⟩, ⟨y0, y1, y2, y3, y4, y5, y6⟩, r7⟩ := obox7f HP3.out
   cases hO : O with
   | none =>
    have HE := Lib.hid (show R = (fmt0, (j : Int) + 1, 10) by rw [HRR.out, HJ.out, HSTEP.out, hO])
    subst hO
    go_wp2
    clear r0 r1 r2 r3 r4 r5 r6 r7 y0 y1 y2 y3 y4 y5 y6
    obtain ⟨⟨r0, r1, r2, r3, r4, r5, r6⟩, ⟨y0, y1, y2, y3, y4, y5, y6⟩, r7⟩ := obox7f (rb_set (a := .int .u8 0) (b := .int .u8 0) (c := .slice none 0 0) (d := .string ⟨#[]⟩) (e := .string ⟨#[]⟩) (f := .string ⟨#[]⟩) (i := .string ⟨#[]⟩) HP3.out)
    exact bodyPost_ret (v := .tuple #[.agg #[.int .u8 0, .int .u8 0, .slice none 0 0, .string ⟨#[]⟩, .string ⟨#[]⟩, .string ⟨#[]⟩, .string ⟨#[]⟩], .int .i64 ((j : Int) + 1), .int .i64 10]) (by simp [results, Tryz.results22, go_sem, r0, r1, r2, r3, r4, r5, r6]) rfl (RetRF.no HE.out (rb_below HBw3.out (Nat.le_refl _)))
   | some st' =>
    have HF4 := Lib.hid (HF3.out st' hO)
    rw [hO] at HSTEP
    subst hO
    have HSTEP := HSTEP
    cases E with
    | true =>
     have HJ2 := Lib.hid (show linesF true st0 0 Ls = linesF true st' ((j + 1 : Nat) : Int) (Ls.drop (j + 1)) by
      rw [HJ.out, HSTEP.out]
      simp only
      rw [if_neg (fun k => by cases k.1)]; rfl)
     go_wp2
     go_roundw
     case rel => exact ⟨j + 1, st', by omega, by go_num, HF4, HB3, HJ2⟩
     case measure => simp [intOf]; omega
    | false =>
     by_cases hlast : j + 1 = n
     ·have HE := Lib.hid (show R = (fmt0, (j : Int) + 1, 10) by
       rw [HRR.out, HJ.out, HSTEP.out]
       simp only
       rw [if_pos ⟨trivial, by rw [HN.out]; exact hlast⟩])
      have e1 : ((j : Int) == (n : Int) - 1) = true := by
       have : (j : Int) = (n : Int) - 1 := by omega
       rw [this]; simp
      go_wp2
      clear r0 r1 r2 r3 r4 r5 r6 r7 y0 y1 y2 y3 y4 y5 y6
      obtain ⟨⟨r0, r1, r2, r3, r4, r5, r6⟩, ⟨y0, y1, y2, y3, y4, y5, y6⟩, r7⟩ := obox7f (rb_set (a := .int .u8 0) (b := .int .u8 0) (c := .slice none 0 0) (d := .string ⟨#[]⟩) (e := .string ⟨#[]⟩) (f := .string ⟨#[]⟩) (i := .string ⟨#[]⟩) HP3.out)
      exact bodyPost_ret (v := .tuple #[.agg #[.int .u8 0, .int .u8 0, .slice none 0 0, .string ⟨#[]⟩, .string ⟨#[]⟩, .string ⟨#[]⟩, .string ⟨#[]⟩], .int .i64 ((j : Int) + 1), .int .i64 10]) (by simp [results, Tryz.results22, go_sem, r0, r1, r2, r3, r4, r5, r6]) rfl (RetRF.no HE.out (rb_below HBw3.out (Nat.le_refl _)))
     ·have HJ2 := Lib.hid (show linesF false st0 0 Ls = linesF false st' ((j + 1 : Nat) : Int) (Ls.drop (j + 1)) by
       rw [HJ.out, HSTEP.out]
       simp only
       rw [if_neg (fun k => hlast (by rw [<- HN.out]; exact k.2))]; rfl)
      have e1 : ((j : Int) == (n : Int) - 1) = false := by
       have : ¬ (j : Int) = (n : Int) - 1 := by omega
       simpa using this
      clear hlast
      go_wp2
      go_roundw
      case rel => exact ⟨j + 1, st', by omega, by go_num, HF4, HB3, HJ2⟩
      case measure => simp [intOf]; omega
  ·obtain rfl : j = n := by omega
   have hend : linesF E st0 0 Ls = .inl st := by
    rw [HJ.out, <- HN.out, List.drop_length]; rfl
   have HEND := Lib.hid (show R = if st.ended = false then (fmt0, (j : Int) + 1, 10) else if checkF st.f ≠ 0 then (fmt0, 0, checkF st.f) else (st.f, 0, 0) by
    rw [HRR.out, hend, HN.out])
   clear hend HJ hge hj
   obtain ⟨-, hok, A, c, FA, FC, hh, hK⟩ := HFR.out
   have HOK := Lib.hid hok
   have HKO := Lib.hid hK
   have HKI := Lib.hid (hK.kinds_ (hok.size (by decide)))
   have hcap := own_cap hK.kinds
   obtain ⟨f, bg, en⟩ := st
   have HCH := Lib.hid (fun h => check_c f A c FA FC wr h hcap.1 hok.1.1.1 hok.1.1.2)
   obtain ⟨m, q, ks, hd, tl, ct, sm⟩ := f
   unfold frC at hh
   unfold fmtG at HCH
   simp only at hh HCH HKI HKO HEND HOK hcap
   obtain ⟨nk, hnk⟩ : ∃ x, ks.length = x := ⟨_, rfl⟩
   have HNK := Lib.hid hnk
   rw [hnk] at hh HCH hcap
   unfold maxLen at hcap
   have HH := Lib.hid hh
   obtain ⟨⟨⟨g0, g1, g2, g3, g4, g5, g6, g7, g8⟩, z0, z1, z2, z3, z4, z5, z6, z7, z8⟩, hlt⟩ := obox9 hh
   obtain ⟨⟨r0, r1, r2, r3, r4, r5, r6⟩, ⟨y0, y1, y2, y3, y4, y5, y6⟩, r7⟩ := obox7f HPr.out
   clear hok hh hK hnk HFR
   cases en with
   | false =>
    have HE := Lib.hid (show R = (fmt0, (j : Int) + 1, 10) by rw [HEND.out, if_pos rfl])
    go_wp2
    clear r0 r1 r2 r3 r4 r5 r6 r7 y0 y1 y2 y3 y4 y5 y6
    obtain ⟨⟨r0, r1, r2, r3, r4, r5, r6⟩, ⟨y0, y1, y2, y3, y4, y5, y6⟩, r7⟩ := obox7f (rb_set (a := .int .u8 0) (b := .int .u8 0) (c := .slice none 0 0) (d := .string ⟨#[]⟩) (e := .string ⟨#[]⟩) (f := .string ⟨#[]⟩) (i := .string ⟨#[]⟩) HPr.out)
    exact bodyPost_ret (v := .tuple #[.agg #[.int .u8 0, .int .u8 0, .slice none 0 0, .string ⟨#[]⟩, .string ⟨#[]⟩, .string ⟨#[]⟩, .string ⟨#[]⟩], .int .i64 ((j : Int) + 1), .int .i64 10]) (by simp [results, Tryz.results22, go_sem, r0, r1, r2, r3, r4, r5, r6]) rfl (RetRF.no HE.out (rb_below HBw.out (Nat.le_refl _)))
   | true =>
    obtain ⟨X, hX⟩ : ∃ x, checkF ⟨m, q, ks, hd, tl, ct, sm⟩ = x := ⟨_, rfl⟩
    rw [hX] at HCH HEND
    go_wp2_with fail
    refine (HCH.out HKI.out).mono ?_
    rintro e w3 ⟨rfl, hb3⟩
    have HP3 := Lib.hid (heap_below HPr.out hb3)
    have HBw3 : Hid (Below w.heap.size w w3) := Lib.hid (HBw.out.trans (hb3.mono HBw.out.size))
    have HK3 : Hid (KOwn w3 w1.heap.size A c ks FA FC) := Lib.hid (HKO.out.keep (fun g cs hh => heap_below hh hb3) (fun g cs hh => heap_below hh hb3))
    have HH3 := Lib.hid (heap_below HH.out hb3)
    clear hb3 hX
    clear r0 r1 r2 r3 r4 r5 r6 r7 y0 y1 y2 y3 y4 y5 y6
    clear g0 g1 g2 g3 g4 g5 g6 g7 g8 z0 z1 z2 z3 z4 z5 z6 z7 z8 hlt
    obtain ⟨⟨⟨g0, g1, g2, g3, g4, g5, g6, g7, g8⟩, z0, z1, z2, z3, z4, z5, z6, z7, z8⟩, hlt⟩ := obox9 HH3.out
    obtain ⟨⟨r0, r1, r2, r3, r4, r5, r6⟩, ⟨y0, y1, y2, y3, y4, y5, y6⟩, r7⟩ := obox7f HP3.out
    by_cases hx : X = 0
    ·subst hx
     have HE := Lib.hid (show R = (⟨m, q, ks, hd, tl, ct, sm⟩, 0, 0) by rw [HEND.out, if_neg (by decide), if_neg (by decide)])
     go_wp2
     clear r0 r1 r2 r3 r4 r5 r6 r7 y0 y1 y2 y3 y4 y5 y6
     have hrs := rb_set (a := .int .u8 m) (b := .int .u8 q) (c := .slice A nk c) (d := .string hd) (e := .string tl) (f := .string ct) (i := .string sm) HP3.out
     obtain ⟨⟨r0, r1, r2, r3, r4, r5, r6⟩, ⟨y0, y1, y2, y3, y4, y5, y6⟩, r7⟩ := obox7f hrs
     have hbn : Below w3.heap.size w3 w3 := Below.refl _ _
     refine bodyPost_ret (v := .tuple #[.agg #[.int .u8 m, .int .u8 q, .slice A nk c, .string hd, .string tl, .string ct, .string sm], .int .i64 0, .int .i64 0]) (by simp [results, Tryz.results22, go_sem, r0, r1, r2, r3, r4, r5, r6]) rfl ⟨⟨m, q, ks, hd, tl, ct, sm⟩, A, c, FA, FC, 0, 0, ?_, HE.out, ?_, ?_, hcap.2, ⟨HOK.out.1.1.1, HOK.out.1.1.2⟩, rb_below HBw3.out (Nat.le_refl _)⟩
     ·unfold fmtG
      simp only
      rw [HNK.out]
     ·exact KOwn.kinds_ (f := ⟨m, q, ks, hd, tl, ct, sm⟩) (HK3.out.keep (fun g cs hh => rb_keep hh (heap_ne hh HP3.out (by decide))) (fun g cs hh => rb_keep hh (heap_ne hh HP3.out (by decide)))) (HOK.out.size (by decide))
     ·simp only
      rw [HNK.out]
      exact hcap.1
    ·have HE := Lib.hid (show R = (fmt0, 0, X) by rw [HEND.out, if_neg (by decide), if_pos hx])
     have hxa : (X != 0) = true := by simpa using hx
     clear hx
     go_wp2
     clear r0 r1 r2 r3 r4 r5 r6 r7 y0 y1 y2 y3 y4 y5 y6
     obtain ⟨⟨r0, r1, r2, r3, r4, r5, r6⟩, ⟨y0, y1, y2, y3, y4, y5, y6⟩, r7⟩ := obox7f (rb_set (a := .int .u8 0) (b := .int .u8 0) (c := .slice none 0 0) (d := .string ⟨#[]⟩) (e := .string ⟨#[]⟩) (f := .string ⟨#[]⟩) (i := .string ⟨#[]⟩) HP3.out)
     exact bodyPost_ret (v := .tuple #[.agg #[.int .u8 0, .int .u8 0, .slice none 0 0, .string ⟨#[]⟩, .string ⟨#[]⟩, .string ⟨#[]⟩, .string ⟨#[]⟩], .int .i64 0, .int .i64 X]) (by simp [results, Tryz.results22, go_sem, r0, r1, r2, r3, r4, r5, r6]) rfl (RetRF.no HE.out (rb_below HBw3.out (Nat.le_refl _)))
def awkT : ByteArray := ⟨#[109, 97, 114, 107, 101, 100, 32, 53, 57, 32, 48, 10, 107, 105, 110, 100, 32, 76, 32, 48, 32, 45, 10, 101, 110, 100, 115, 32, 45, 32, 45, 32, 45, 32, 45, 10]⟩
set_option maxRecDepth 100000 in
theorem awk_read : readF awkT = (⟨59, 0, [⟨⟨#[76]⟩, [], 0, eS⟩], eS, eS, eS, eS⟩, 0, 0) := by decide +kernel
end Go.Proofs.YtbnjejenejoibaaGreatDoor
