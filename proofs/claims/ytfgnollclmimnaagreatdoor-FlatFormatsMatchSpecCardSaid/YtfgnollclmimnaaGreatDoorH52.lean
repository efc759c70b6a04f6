
/- The walk of the reference's columnWords, at kind 2. (Printed by genH4.py.) -/
import Derived.Test.YtfgnollclmimnaaGreatDoorH4
namespace Go.Proofs.YtfgnollclmimnaaGreatDoor
open Go.RowKit Limb Nmb Work
set_option linter.unusedVariables false
set_option linter.unusedSimpArgs false

set_option maxHeartbeats 4000000 in
set_option maxRecDepth 100000 in
theorem colwords2_c (f : Fmt) (A0 : Option Addr) (c0 : Nat) (co : Col) (w : World) (hr : ColR f.mark co) (hk : co.kind = 2) (ht : Tab6 w) :
    Calls Tryz.prog 26 #[fmtG f A0 c0, colG co] w (RetCW (colT f.mark co) w) := by
  obtain ⟨m, q, ks, hd, tl, ct, sm⟩ := f
  obtain ⟨nm, kd, wi, pl, fo, rt, fi, ne⟩ := co
  simp only at hk hr
  subst hk
  unfold fmtG colG
  simp only
  obtain ⟨nk, hnk⟩ : ∃ x, ks.length = x := ⟨_, rfl⟩
  rw [hnk]
  have HL := Lib.hid (col_len hr)
  have HFR : Hid (m = 0 → (2 : Int) ≠ 3 → 0 ≤ fi ∧ fi ≤ 255) := Lib.hid (fun h0 h1 => by have h2 := hr.side; simp only at h2; rw [if_pos ⟨h0, h1⟩] at h2; exact h2)
  have hw0 := hr.width; have hp0 := hr.places; have hf0 := hr.form; have hs0 := hr.side
  simp only at hw0 hp0 hf0 hs0
  have HIwi := Lib.hid (fun w h => itoa6_c wi w hw0 h)
  rw [if_pos trivial] at hp0
  have HIpl := Lib.hid (fun w h => itoa6_c pl w hp0 h)
  have HIfi : Hid (m = 0 → ∀ w, Tab6 w → Calls Tryz.prog 20 #[.int .i64 fi] w (RetS6 (bs (Lib.itoa fi)) w)) := Lib.hid (fun hm w h => itoa6_c fi w (by rw [if_pos ⟨hm, by decide⟩] at hs0; omega) h)
  obtain ⟨swi, hswi⟩ : ∃ x, bs (Lib.itoa wi) = x := ⟨_, rfl⟩
  have HSwi := Lib.hid hswi
  rw [hswi] at HIwi
  unfold RetS6 at HIwi
  obtain ⟨spl, hspl⟩ : ∃ x, bs (Lib.itoa pl) = x := ⟨_, rfl⟩
  have HSpl := Lib.hid hspl
  rw [hspl] at HIpl
  unfold RetS6 at HIpl
  obtain ⟨sfi, hsfi⟩ : ∃ x, bs (Lib.itoa fi) = x := ⟨_, rfl⟩
  have HSfi := Lib.hid hsfi
  rw [hsfi] at HIfi
  unfold RetS6 at HIfi
  have HT0 := Lib.hid ht
  obtain ⟨WW, hWW⟩ : ∃ x, colT m ⟨nm, 2, wi, pl, fo, rt, fi, ne⟩ = x := ⟨_, rfl⟩
  have HWW := Lib.hid hWW
  rw [hWW] at HL ⊢
  have HF := Lib.hid (heap_old (heap_new w (.cells #[.int .u8 m, .int .u8 q, .slice A0 nk c0, .string hd, .string tl, .string ct, .string sm] 24) rfl) (.cells #[.string nm, .int .i64 2, .int .i64 wi, .int .i64 pl, .int .i64 fo, .bool rt, .int .u8 fi, .bool ne] 51))
  have HC := Lib.hid (heap_new (w.alloc (.cells #[.int .u8 m, .int .u8 q, .slice A0 nk c0, .string hd, .string tl, .string ct, .string sm] 24)) (.cells #[.string nm, .int .i64 2, .int .i64 wi, .int .i64 pl, .int .i64 fo, .bool rt, .int .u8 fi, .bool ne] 51) (g := w.heap.size + 1) (by simp))
  have HB : Hid (Below w.heap.size w ((w.alloc (.cells #[.int .u8 m, .int .u8 q, .slice A0 nk c0, .string hd, .string tl, .string ct, .string sm] 24)).alloc (.cells #[.string nm, .int .i64 2, .int .i64 wi, .int .i64 pl, .int .i64 fo, .bool rt, .int .u8 fi, .bool ne] 51))) := Lib.hid (by go_grown)
  clear hr hw0 hp0 hf0 hs0 ht hnk hWW hswi hspl hsfi
  obtain ⟨i0, hi⟩ : ∃ i, Tryz.prog.info? 9 = some i := ⟨_, rfl⟩
  have hz0 : i0.zero = some (.string ⟨#[]⟩) := by obtain rfl := Option.some.inj (hi.symm.trans rfl); rfl
  have hz1 : i0.size = 1 := by obtain rfl := Option.some.inj (hi.symm.trans rfl); rfl
  have hz2 : i0.bytes = 16 := by obtain rfl := Option.some.inj (hi.symm.trans rfl); rfl
  have HI0 := Lib.hid hi; have HZ0 := Lib.hid hz0; have HZ1 := Lib.hid hz1; have HZ2 := Lib.hid hz2
  clear hi hz0 hz1 hz2
  go_enter Tryz.func26, Tryz.ntmps26
  go_upto_region 1 with fail
  generalize (w.alloc (.cells #[.int .u8 m, .int .u8 q, .slice A0 nk c0, .string hd, .string tl, .string ct, .string sm] 24)).alloc (.cells #[.string nm, .int .i64 2, .int .i64 wi, .int .i64 pl, .int .i64 fo, .bool rt, .int .u8 fi, .bool ne] 51) = w1 at HF HC HB ⊢
  obtain ⟨⟨f0, f1, f2, f3, f4, f5, f6⟩, f7⟩ := obox7 HF.out
  obtain ⟨⟨c0_, c1, c2, c3, c4, c5, c6, c7⟩, -, c8⟩ := obox8f HC.out
  have hzB := HB.out.size
  have HSB := Lib.hid (show ∀ wx, Below w1.heap.size w1 wx → (fun w' : World => w'.cell? ⟨w.heap.size + 1, 0, none⟩ = some (.string nm) ∧ w'.cell? ⟨w.heap.size + 1, 1, none⟩ = some (.int .i64 2) ∧ w'.cell? ⟨w.heap.size + 1, 2, none⟩ = some (.int .i64 wi)) wx from fun wx T => ⟨(T.cell (p := ⟨w.heap.size + 1, 0, none⟩) c8).trans c0_, (T.cell (p := ⟨w.heap.size + 1, 1, none⟩) c8).trans c1, (T.cell (p := ⟨w.heap.size + 1, 2, none⟩) c8).trans c2⟩)
  have HKW := Lib.hid kindwords_b
  go_cut [5] (fun v wx => ∃ A c, v = .slice A 3 c ∧ Hid (wx.ownsRow w.heap.size 9 1 (.slice A 3 c) 3 (strV [⟨#[110, 117, 109, 98, 101, 114]⟩, nm, swi])) ∧ Below w1.heap.size w1 wx)
  case first =>
    clear f0 f1 f2 f3 f4 f5 f6 f7 c3 c4 c5 c6 c7
    have hks : IntKind.i64.wrap (1 : Int) = 1 := by decide
    refine region_till 11 (fun w' => w'.cell? ⟨w.heap.size + 1, 0, none⟩ = some (.string nm) ∧ w'.cell? ⟨w.heap.size + 1, 1, none⟩ = some (.int .i64 2) ∧ w'.cell? ⟨w.heap.size + 1, 2, none⟩ = some (.int .i64 wi)) (by kernel_rfl) ?_
    have hT : (fun w' : World => w'.cell? ⟨w.heap.size + 1, 0, none⟩ = some (.string nm) ∧ w'.cell? ⟨w.heap.size + 1, 1, none⟩ = some (.int .i64 2) ∧ w'.cell? ⟨w.heap.size + 1, 2, none⟩ = some (.int .i64 wi)) w1.drew := ⟨c0_, c1, c2⟩
    refine Till.take (i := 1) (v := ?_) rfl (by kernel_rfl) (by kernel_rfl) (by kernel_rfl) [2, 3, 4, 5] (by kernel_rfl) (by decide) (by kernel_rfl) (by kernel_rfl) (fun _ _ _ h => h) hT (Or.inl ⟨by rfl, ?_⟩) ?_
    rotate_left
    · (intro w' hw'; obtain ⟨u1, u2, u3⟩ := hw'; go_simp; try with_reducible rfl)
    (try simp only [Act.put, List.setIfInBounds_toArray, List.set_cons_zero, List.set_cons_succ])
    refine Till.take (i := 2) (v := ?_) rfl (by kernel_rfl) (by kernel_rfl) (by kernel_rfl) [3, 4, 5] (by kernel_rfl) (by decide) (by kernel_rfl) (by kernel_rfl) (fun _ _ _ h => h) hT (Or.inl ⟨by rfl, ?_⟩) ?_
    rotate_left
    · (intro w' hw'; obtain ⟨u1, u2, u3⟩ := hw'; go_simp; try with_reducible rfl)
    (try simp only [Act.put, List.setIfInBounds_toArray, List.set_cons_zero, List.set_cons_succ])
    refine Till.take (i := 3) (v := ?_) rfl (by kernel_rfl) (by kernel_rfl) (by kernel_rfl) [4, 5] (by kernel_rfl) (by decide) (by kernel_rfl) (by kernel_rfl) (fun _ _ _ h => h) hT (Or.inl ⟨by rfl, ?_⟩) ?_
    rotate_left
    · (intro w' hw'; obtain ⟨u1, u2, u3⟩ := hw'; go_simp; try with_reducible rfl)
    (try simp only [Act.put, List.setIfInBounds_toArray, List.set_cons_zero, List.set_cons_succ])
    refine Till.take (i := 6) (v := ?_) rfl (by kernel_rfl) (by kernel_rfl) (by kernel_rfl) [7] (by kernel_rfl) (by decide) (by kernel_rfl) (by kernel_rfl) (fun _ _ _ h => h) hT (Or.inl ⟨by rfl, ?_⟩) ?_
    rotate_left
    · (intro w' hw'; obtain ⟨u1, u2, u3⟩ := hw'; go_simp; try with_reducible rfl)
    (try simp only [Act.put, List.setIfInBounds_toArray, List.set_cons_zero, List.set_cons_succ])
    refine Till.take (i := 7) (v := ?_) rfl (by kernel_rfl) (by kernel_rfl) (by kernel_rfl) [] (by kernel_rfl) (by decide) (by kernel_rfl) (by kernel_rfl) (fun _ _ _ h => h) hT (Or.inl ⟨by rfl, ?_⟩) ?_
    rotate_left
    · (intro w' hw'; obtain ⟨u1, u2, u3⟩ := hw'; go_simp; try with_reducible rfl)
    (try simp only [Act.put, List.setIfInBounds_toArray, List.set_cons_zero, List.set_cons_succ])
    refine Till.take (i := 8) (v := ?_) rfl (by kernel_rfl) (by kernel_rfl) (by kernel_rfl) [9, 10] (by kernel_rfl) (by decide) (by kernel_rfl) (by kernel_rfl) (fun _ _ _ h => h) hT (Or.inl ⟨by rfl, ?_⟩) ?_
    rotate_left
    · (intro w' hw'; obtain ⟨u1, u2, u3⟩ := hw'; go_simp; try with_reducible rfl)
    (try simp only [Act.put, List.setIfInBounds_toArray, List.set_cons_zero, List.set_cons_succ])
    refine Till.take (i := 9) (v := ?_) rfl (by kernel_rfl) (by kernel_rfl) (by kernel_rfl) [10] (by kernel_rfl) (by decide) (by kernel_rfl) (by kernel_rfl) (fun _ _ _ h => h) hT (Or.inl ⟨by rfl, ?_⟩) ?_
    rotate_left
    · (intro w' hw'; obtain ⟨u1, u2, u3⟩ := hw'; go_simp; try with_reducible rfl)
    (try simp only [Act.put, List.setIfInBounds_toArray, List.set_cons_zero, List.set_cons_succ])
    refine Till.fork (i := 0) (j := 10) (by kernel_rfl) rfl rfl ?_ ?_
    · intro KK hKK
      go_simp
      have hT : (fun w' : World => w'.cell? ⟨w.heap.size + 1, 0, none⟩ = some (.string nm) ∧ w'.cell? ⟨w.heap.size + 1, 1, none⟩ = some (.int .i64 2) ∧ w'.cell? ⟨w.heap.size + 1, 2, none⟩ = some (.int .i64 wi)) ((w1.alloc (.cells #[.string ⟨#[116, 101, 120, 116]⟩, .string ⟨#[110, 117, 109, 98, 101, 114]⟩, .string ⟨#[100, 97, 121]⟩] 9)).drew) := HSB.out _ (by go_grown)
      refine hKK.out _ _ (fun _ => hT) ?_
      clear hKK KK
      (try simp only [Act.put, List.setIfInBounds_toArray, List.set_cons_zero, List.set_cons_succ])
      have T3 : Below w1.heap.size w1 ((w1.alloc (.cells #[.string ⟨#[116, 101, 120, 116]⟩, .string ⟨#[110, 117, 109, 98, 101, 114]⟩, .string ⟨#[100, 97, 121]⟩] 9)).drew) := by go_grown
      obtain ⟨q0, q1, q2, q5⟩ := obox3s (show (w1.alloc (.cells #[.string ⟨#[116, 101, 120, 116]⟩, .string ⟨#[110, 117, 109, 98, 101, 114]⟩, .string ⟨#[100, 97, 121]⟩] 9)).drew.heap[w1.heap.size]? = _ from heap_new w1 (.cells #[.string ⟨#[116, 101, 120, 116]⟩, .string ⟨#[110, 117, 109, 98, 101, 114]⟩, .string ⟨#[100, 97, 121]⟩] 9) rfl)
      refine Till.more (T' := fun w' => w'.cell? ⟨w.heap.size + 1, 0, none⟩ = some (.string nm) ∧ w'.cell? ⟨w.heap.size + 1, 1, none⟩ = some (.int .i64 2) ∧ w'.cell? ⟨w.heap.size + 1, 2, none⟩ = some (.int .i64 wi) ∧ w'.cell? ⟨w1.heap.size, 1, none⟩ = some (.string ⟨#[110, 117, 109, 98, 101, 114]⟩)) (fun _ h => ⟨h.1, h.2.1, h.2.2.1⟩) _ _ _ _ ?_
      have hT : (fun w' : World => w'.cell? ⟨w.heap.size + 1, 0, none⟩ = some (.string nm) ∧ w'.cell? ⟨w.heap.size + 1, 1, none⟩ = some (.int .i64 2) ∧ w'.cell? ⟨w.heap.size + 1, 2, none⟩ = some (.int .i64 wi) ∧ w'.cell? ⟨w1.heap.size, 1, none⟩ = some (.string ⟨#[110, 117, 109, 98, 101, 114]⟩)) ((w1.alloc (.cells #[.string ⟨#[116, 101, 120, 116]⟩, .string ⟨#[110, 117, 109, 98, 101, 114]⟩, .string ⟨#[100, 97, 121]⟩] 9)).drew) := ⟨hT.1, hT.2.1, hT.2.2, q1⟩
      generalize (w1.alloc (.cells #[.string ⟨#[116, 101, 120, 116]⟩, .string ⟨#[110, 117, 109, 98, 101, 114]⟩, .string ⟨#[100, 97, 121]⟩] 9)).drew = w3 at hT T3 q0 q1 q2 q5 ⊢
      refine Till.take (i := 4) (v := ?_) rfl (by kernel_rfl) (by kernel_rfl) (by kernel_rfl) [5] (by kernel_rfl) (by decide) (by kernel_rfl) (by kernel_rfl) (fun _ _ _ h => h) hT (Or.inl ⟨by rfl, ?_⟩) ?_
      rotate_left
      · (intro w' hw'; obtain ⟨u1, u2, u3, u4⟩ := hw'; go_simp; try with_reducible rfl)
      (try simp only [Act.put, List.setIfInBounds_toArray, List.set_cons_zero, List.set_cons_succ])
      refine Till.take (i := 5) (v := ?_) rfl (by kernel_rfl) (by kernel_rfl) (by kernel_rfl) [] (by kernel_rfl) (by decide) (by kernel_rfl) (by kernel_rfl) (fun _ _ _ h => h) hT (Or.inl ⟨by rfl, ?_⟩) ?_
      rotate_left
      · (intro w' hw'; obtain ⟨u1, u2, u3, u4⟩ := hw'; go_simp; try with_reducible rfl)
      (try simp only [Act.put, List.setIfInBounds_toArray, List.set_cons_zero, List.set_cons_succ])
      refine Till.step (i := 10) (by kernel_rfl) rfl ?_
      intro K hK
      go_simp
      (go_at_call 20; refine (HIwi.out _ (HT0.out.below (below_then T3 HB.out HB.out.size))).mono ?_; rintro e w4 ⟨rfl, hb4⟩; (have T4 : Below w1.heap.size w1 w4 := T3.trans (hb4.mono T3.size)); (have hq4 : w4.cell? ⟨w1.heap.size, 1, none⟩ = some (.string ⟨#[110, 117, 109, 98, 101, 114]⟩) := (hb4.cell (p := ⟨w1.heap.size, 1, none⟩) q5).trans q1))
      have hT : (fun w' : World => w'.cell? ⟨w.heap.size + 1, 0, none⟩ = some (.string nm) ∧ w'.cell? ⟨w.heap.size + 1, 1, none⟩ = some (.int .i64 2) ∧ w'.cell? ⟨w.heap.size + 1, 2, none⟩ = some (.int .i64 wi) ∧ w'.cell? ⟨w1.heap.size, 1, none⟩ = some (.string ⟨#[110, 117, 109, 98, 101, 114]⟩)) w4 := ⟨(HSB.out w4 T4).1, (HSB.out w4 T4).2.1, (HSB.out w4 T4).2.2, hq4⟩
      refine hK.out _ _ (fun _ => hT) ?_
      clear hK K
      (try simp only [Act.put, List.setIfInBounds_toArray, List.set_cons_zero, List.set_cons_succ])
      refine Till.step (i := 11) (by kernel_rfl) rfl ?_
      intro K hK
      go_simp
      refine hK.out _ _ (fun h => absurd h (by decide)) ?_
      clear hK K
      (try simp only [Act.put, List.setIfInBounds_toArray, List.set_cons_zero, List.set_cons_succ])
      refine Till.step (i := 12) (by kernel_rfl) rfl ?_
      intro K hK
      go_simp
      refine hK.out _ _ (fun h => absurd h (by decide)) ?_
      clear hK K
      (try simp only [Act.put, List.setIfInBounds_toArray, List.set_cons_zero, List.set_cons_succ])
      refine Till.done (by kernel_rfl) ?_ _
      go_wp2_with fail
      go_meet
      exact ⟨_, 3, rfl, Lib.hid (World.ownsRow_lit w4 (strV [⟨#[110, 117, 109, 98, 101, 114]⟩, nm, swi]).toArray 3 (by have := T4.size; omega) (by decide) rfl), T4.alloc T4.size _⟩
    · intro KK hKK
      go_simp
      (go_at_call 20; refine (HIwi.out _ (HT0.out.below HB.out.drew)).mono ?_; rintro e w3 ⟨rfl, hb3⟩; (have T3 : Below w1.heap.size w1 w3 := ⟨hb3.os, hb3.tape, hb3.output, hb3.size, hb3.block⟩))
      have hT : (fun w' : World => w'.cell? ⟨w.heap.size + 1, 0, none⟩ = some (.string nm) ∧ w'.cell? ⟨w.heap.size + 1, 1, none⟩ = some (.int .i64 2) ∧ w'.cell? ⟨w.heap.size + 1, 2, none⟩ = some (.int .i64 wi)) w3 := HSB.out w3 T3
      refine hKK.out _ _ (fun _ => hT) ?_
      clear hKK KK
      (try simp only [Act.put, List.setIfInBounds_toArray, List.set_cons_zero, List.set_cons_succ])
      have hT0 := hT
      refine Till.step (i := 0) (by kernel_rfl) rfl ?_
      intro K hK
      go_simp
      have T4 : Below w1.heap.size w1 (w3.alloc (.cells #[.string ⟨#[116, 101, 120, 116]⟩, .string ⟨#[110, 117, 109, 98, 101, 114]⟩, .string ⟨#[100, 97, 121]⟩] 9)) := T3.alloc T3.size _
      have hT : (fun w' : World => w'.cell? ⟨w.heap.size + 1, 0, none⟩ = some (.string nm) ∧ w'.cell? ⟨w.heap.size + 1, 1, none⟩ = some (.int .i64 2) ∧ w'.cell? ⟨w.heap.size + 1, 2, none⟩ = some (.int .i64 wi)) (w3.alloc (.cells #[.string ⟨#[116, 101, 120, 116]⟩, .string ⟨#[110, 117, 109, 98, 101, 114]⟩, .string ⟨#[100, 97, 121]⟩] 9)) := HSB.out _ T4
      refine hK.out _ _ (fun _ => hT) ?_
      clear hK K
      (try simp only [Act.put, List.setIfInBounds_toArray, List.set_cons_zero, List.set_cons_succ])
      obtain ⟨q0, q1, q2, q5⟩ := obox3s (heap_new w3 (.cells #[.string ⟨#[116, 101, 120, 116]⟩, .string ⟨#[110, 117, 109, 98, 101, 114]⟩, .string ⟨#[100, 97, 121]⟩] 9) rfl)
      refine Till.more (T' := fun w' => w'.cell? ⟨w.heap.size + 1, 0, none⟩ = some (.string nm) ∧ w'.cell? ⟨w.heap.size + 1, 1, none⟩ = some (.int .i64 2) ∧ w'.cell? ⟨w.heap.size + 1, 2, none⟩ = some (.int .i64 wi) ∧ w'.cell? ⟨w3.heap.size, 1, none⟩ = some (.string ⟨#[110, 117, 109, 98, 101, 114]⟩)) (fun _ h => ⟨h.1, h.2.1, h.2.2.1⟩) _ _ _ _ ?_
      have hT : (fun w' : World => w'.cell? ⟨w.heap.size + 1, 0, none⟩ = some (.string nm) ∧ w'.cell? ⟨w.heap.size + 1, 1, none⟩ = some (.int .i64 2) ∧ w'.cell? ⟨w.heap.size + 1, 2, none⟩ = some (.int .i64 wi) ∧ w'.cell? ⟨w3.heap.size, 1, none⟩ = some (.string ⟨#[110, 117, 109, 98, 101, 114]⟩)) (w3.alloc (.cells #[.string ⟨#[116, 101, 120, 116]⟩, .string ⟨#[110, 117, 109, 98, 101, 114]⟩, .string ⟨#[100, 97, 121]⟩] 9)) := ⟨hT.1, hT.2.1, hT.2.2, q1⟩
      generalize w3.alloc (.cells #[.string ⟨#[116, 101, 120, 116]⟩, .string ⟨#[110, 117, 109, 98, 101, 114]⟩, .string ⟨#[100, 97, 121]⟩] 9) = w4 at hT T4 q0 q1 q2 q5 ⊢
      refine Till.take (i := 4) (v := ?_) rfl (by kernel_rfl) (by kernel_rfl) (by kernel_rfl) [5] (by kernel_rfl) (by decide) (by kernel_rfl) (by kernel_rfl) (fun _ _ _ h => h) hT (Or.inl ⟨by rfl, ?_⟩) ?_
      rotate_left
      · (intro w' hw'; obtain ⟨u1, u2, u3, u4⟩ := hw'; go_simp; try with_reducible rfl)
      (try simp only [Act.put, List.setIfInBounds_toArray, List.set_cons_zero, List.set_cons_succ])
      refine Till.take (i := 5) (v := ?_) rfl (by kernel_rfl) (by kernel_rfl) (by kernel_rfl) [] (by kernel_rfl) (by decide) (by kernel_rfl) (by kernel_rfl) (fun _ _ _ h => h) hT (Or.inl ⟨by rfl, ?_⟩) ?_
      rotate_left
      · (intro w' hw'; obtain ⟨u1, u2, u3, u4⟩ := hw'; go_simp; try with_reducible rfl)
      (try simp only [Act.put, List.setIfInBounds_toArray, List.set_cons_zero, List.set_cons_succ])
      refine Till.step (i := 11) (by kernel_rfl) rfl ?_
      intro K hK
      go_simp
      refine hK.out _ _ (fun h => absurd h (by decide)) ?_
      clear hK K
      (try simp only [Act.put, List.setIfInBounds_toArray, List.set_cons_zero, List.set_cons_succ])
      refine Till.step (i := 12) (by kernel_rfl) rfl ?_
      intro K hK
      go_simp
      refine hK.out _ _ (fun h => absurd h (by decide)) ?_
      clear hK K
      (try simp only [Act.put, List.setIfInBounds_toArray, List.set_cons_zero, List.set_cons_succ])
      refine Till.done (by kernel_rfl) ?_ _
      go_wp2_with fail
      go_meet
      exact ⟨_, 3, rfl, Lib.hid (World.ownsRow_lit w4 (strV [⟨#[110, 117, 109, 98, 101, 114]⟩, nm, swi]).toArray 3 (by have := T4.size; omega) (by decide) rfl), T4.alloc T4.size _⟩
  case rest =>
  obtain ⟨A5, k5, rfl, HO, hb5⟩ := hcut
  generalize wc = w5 at HO hb5 ⊢
  have HFn := Lib.hid (heap_below HF.out hb5); have HCn := Lib.hid (heap_below HC.out hb5); have HBn := Lib.hid (below_then hb5 HB.out HB.out.size)
  clear f0 f1 f2 f3 f4 f5 f6 f7 c0_ c1 c2 c3 c4 c5 c6 c7 c8
  clear HF HC HB hb5 hzB HSB
  have HF := HFn; have HC := HCn; have HB := HBn
  clear HFn HCn HBn
  have hzB := HB.out.size
  obtain ⟨⟨f0, f1, f2, f3, f4, f5, f6⟩, f7⟩ := obox7 HF.out
  obtain ⟨⟨c0_, c1, c2, c3, c4, c5, c6, c7⟩, -, c8⟩ := obox8f HC.out
  go_wp2_with fail
  refine (HIpl.out _ (HT0.out.below HB.out)).mono ?_
  rintro e w6 ⟨rfl, hbx⟩
  have HFn := Lib.hid (heap_below HF.out hbx); have HCn := Lib.hid (heap_below HC.out hbx); have HBn := Lib.hid (below_then hbx HB.out HB.out.size)
  have HOn := Lib.hid (own_keepT HO.out (fun g cs hh => heap_below hh hbx))
  clear f0 f1 f2 f3 f4 f5 f6 f7 c0_ c1 c2 c3 c4 c5 c6 c7 c8
  clear HF HC HB HO hbx hzB
  have HF := HFn; have HC := HCn; have HB := HBn; have HO := HOn
  clear HFn HCn HBn HOn
  have hzB := HB.out.size
  obtain ⟨⟨f0, f1, f2, f3, f4, f5, f6⟩, f7⟩ := obox7 HF.out
  obtain ⟨⟨c0_, c1, c2, c3, c4, c5, c6, c7⟩, -, c8⟩ := obox8f HC.out
  go_upto_region 7 with (at_builtin; (with_reducible refine wpList_push_strs rfl _ _ 34 rfl w.heap.size i0 (.string ⟨#[]⟩) Tryz.underlying34 HI0.out HZ0.out HZ1.out HZ2.out rfl (.slice A5 3 k5) 3 [⟨#[110, 117, 109, 98, 101, 114]⟩, nm, swi] rfl HO.out 1 [.string spl] [spl] rfl rfl rfl (by omega) hzB ?_); intro A7 k7 w7 hown7 hg7)
  have HFn := Lib.hid (grown_type HO.out hg7 HF.out (by decide)); have HCn := Lib.hid (grown_type HO.out hg7 HC.out (by decide))
  have HBn : Hid (Below w.heap.size w w7) := Lib.hid (HB.out.trans ⟨hg7.os, hg7.tape, hg7.output, hg7.size, fun k hk => hg7.block k (by omega) (fun e => by have := HO.out.lt k e.symm; omega)⟩)
  have HOn := Lib.hid hown7
  clear f0 f1 f2 f3 f4 f5 f6 f7 c0_ c1 c2 c3 c4 c5 c6 c7 c8
  clear HF HC HB HO hg7 hown7 hzB
  have HF := HFn; have HC := HCn; have HB := HBn; have HO := HOn
  clear HFn HCn HBn HOn
  have hzB := HB.out.size
  obtain ⟨⟨f0, f1, f2, f3, f4, f5, f6⟩, f7⟩ := obox7 HF.out
  obtain ⟨⟨c0_, c1, c2, c3, c4, c5, c6, c7⟩, -, c8⟩ := obox8f HC.out
  by_cases hm : m = 0
  · have e1 : (m == 0) = true := by simpa using hm
    have HIf := Lib.hid (HIfi.out hm)
    have hfr := HFR.out hm (by decide)
    have hwf : IntKind.i64.wrap fi = fi := IntWalk.i64_in _ (by omega)
    have HM := Lib.hid hm
    clear hm
    cases rt with
    | false =>
      clear HIfi
      have HIfi := HIf
      clear HIf
      go_wp2_with fail
      refine (HIfi.out _ (HT0.out.below HB.out)).mono ?_
      rintro e w8 ⟨rfl, hbx⟩
      have HFn := Lib.hid (heap_below HF.out hbx); have HCn := Lib.hid (heap_below HC.out hbx); have HBn := Lib.hid (below_then hbx HB.out HB.out.size)
      have HOn := Lib.hid (own_keepT HO.out (fun g cs hh => heap_below hh hbx))
      clear f0 f1 f2 f3 f4 f5 f6 f7 c0_ c1 c2 c3 c4 c5 c6 c7 c8
      clear HF HC HB HO hbx hzB
      have HF := HFn; have HC := HCn; have HB := HBn; have HO := HOn
      clear HFn HCn HBn HOn
      have hzB := HB.out.size
      obtain ⟨⟨f0, f1, f2, f3, f4, f5, f6⟩, f7⟩ := obox7 HF.out
      obtain ⟨⟨c0_, c1, c2, c3, c4, c5, c6, c7⟩, -, c8⟩ := obox8f HC.out
      go_upto_region 12 with (at_builtin; (with_reducible refine wpList_push_strs rfl _ _ 34 rfl w.heap.size i0 (.string ⟨#[]⟩) Tryz.underlying34 HI0.out HZ0.out HZ1.out HZ2.out rfl (.slice A7 4 k7) 4 [⟨#[110, 117, 109, 98, 101, 114]⟩, nm, swi, spl] rfl HO.out 2 [.string ⟨#[108, 101, 102, 116]⟩, .string sfi] [⟨#[108, 101, 102, 116]⟩, sfi] rfl rfl rfl (by omega) hzB ?_); intro A9 k9 w9 hown9 hg9)
      have HFn := Lib.hid (grown_type HO.out hg9 HF.out (by decide)); have HCn := Lib.hid (grown_type HO.out hg9 HC.out (by decide))
      have HBn : Hid (Below w.heap.size w w9) := Lib.hid (HB.out.trans ⟨hg9.os, hg9.tape, hg9.output, hg9.size, fun k hk => hg9.block k (by omega) (fun e => by have := HO.out.lt k e.symm; omega)⟩)
      have HOn := Lib.hid hown9
      clear f0 f1 f2 f3 f4 f5 f6 f7 c0_ c1 c2 c3 c4 c5 c6 c7 c8
      clear HF HC HB HO hg9 hown9 hzB
      have HF := HFn; have HC := HCn; have HB := HBn; have HO := HOn
      clear HFn HCn HBn HOn
      have hzB := HB.out.size
      obtain ⟨⟨f0, f1, f2, f3, f4, f5, f6⟩, f7⟩ := obox7 HF.out
      obtain ⟨⟨c0_, c1, c2, c3, c4, c5, c6, c7⟩, -, c8⟩ := obox8f HC.out
      cases ne with
      | false =>
        have hWL : WW.map bs = [⟨#[110, 117, 109, 98, 101, 114]⟩, nm, swi, spl, ⟨#[108, 101, 102, 116]⟩, sfi] := by
          rw [← HWW.out]
          simp [colT, pT, sT, nT, kwL, bs_self, HSwi.out, HSpl.out, HSfi.out, HM.out, sdL] <;> decide
        have hWN : WW.length = 6 := by have := congrArg List.length hWL; simpa using this
        obtain ⟨g9, rfl, hst, hle, -⟩ := own_sts HO.out (by decide)
        have HEND := Lib.hid (show RetCW WW w (.returned (.slice (some ⟨g9, 0, none⟩) 6 k9)) w9 from ⟨g9, k9, by rw [hWN], by rw [hWN]; exact hle, by rw [hWL]; exact hst, HB.out⟩)
        clear hWL hWN hst hle
        go_wp2
        go_ret
        exact HEND.out
      | true =>
        go_upto_region 14 with (at_builtin; (with_reducible refine wpList_push_strs rfl _ _ 34 rfl w.heap.size i0 (.string ⟨#[]⟩) Tryz.underlying34 HI0.out HZ0.out HZ1.out HZ2.out rfl (.slice A9 6 k9) 6 [⟨#[110, 117, 109, 98, 101, 114]⟩, nm, swi, spl, ⟨#[108, 101, 102, 116]⟩, sfi] rfl HO.out 1 [.string ⟨#[110, 101, 101, 100]⟩] [⟨#[110, 101, 101, 100]⟩] rfl rfl rfl (by omega) hzB ?_); intro A10 k10 w10 hown10 hg10)
        have HFn := Lib.hid (grown_type HO.out hg10 HF.out (by decide)); have HCn := Lib.hid (grown_type HO.out hg10 HC.out (by decide))
        have HBn : Hid (Below w.heap.size w w10) := Lib.hid (HB.out.trans ⟨hg10.os, hg10.tape, hg10.output, hg10.size, fun k hk => hg10.block k (by omega) (fun e => by have := HO.out.lt k e.symm; omega)⟩)
        have HOn := Lib.hid hown10
        clear f0 f1 f2 f3 f4 f5 f6 f7 c0_ c1 c2 c3 c4 c5 c6 c7 c8
        clear HF HC HB HO hg10 hown10 hzB
        have HF := HFn; have HC := HCn; have HB := HBn; have HO := HOn
        clear HFn HCn HBn HOn
        have hzB := HB.out.size
        obtain ⟨⟨f0, f1, f2, f3, f4, f5, f6⟩, f7⟩ := obox7 HF.out
        obtain ⟨⟨c0_, c1, c2, c3, c4, c5, c6, c7⟩, -, c8⟩ := obox8f HC.out
        have hWL : WW.map bs = [⟨#[110, 117, 109, 98, 101, 114]⟩, nm, swi, spl, ⟨#[108, 101, 102, 116]⟩, sfi, ⟨#[110, 101, 101, 100]⟩] := by
          rw [← HWW.out]
          simp [colT, pT, sT, nT, kwL, bs_self, HSwi.out, HSpl.out, HSfi.out, HM.out, sdL] <;> decide
        have hWN : WW.length = 7 := by have := congrArg List.length hWL; simpa using this
        obtain ⟨g9, rfl, hst, hle, -⟩ := own_sts HO.out (by decide)
        have HEND := Lib.hid (show RetCW WW w (.returned (.slice (some ⟨g9, 0, none⟩) 7 k10)) w10 from ⟨g9, k10, by rw [hWN], by rw [hWN]; exact hle, by rw [hWL]; exact hst, HB.out⟩)
        clear hWL hWN hst hle
        go_wp2
        go_ret
        exact HEND.out
    | true =>
      clear HIfi
      have HIfi := HIf
      clear HIf
      go_wp2_with fail
      refine (HIfi.out _ (HT0.out.below HB.out)).mono ?_
      rintro e w8 ⟨rfl, hbx⟩
      have HFn := Lib.hid (heap_below HF.out hbx); have HCn := Lib.hid (heap_below HC.out hbx); have HBn := Lib.hid (below_then hbx HB.out HB.out.size)
      have HOn := Lib.hid (own_keepT HO.out (fun g cs hh => heap_below hh hbx))
      clear f0 f1 f2 f3 f4 f5 f6 f7 c0_ c1 c2 c3 c4 c5 c6 c7 c8
      clear HF HC HB HO hbx hzB
      have HF := HFn; have HC := HCn; have HB := HBn; have HO := HOn
      clear HFn HCn HBn HOn
      have hzB := HB.out.size
      obtain ⟨⟨f0, f1, f2, f3, f4, f5, f6⟩, f7⟩ := obox7 HF.out
      obtain ⟨⟨c0_, c1, c2, c3, c4, c5, c6, c7⟩, -, c8⟩ := obox8f HC.out
      go_upto_region 12 with (at_builtin; (with_reducible refine wpList_push_strs rfl _ _ 34 rfl w.heap.size i0 (.string ⟨#[]⟩) Tryz.underlying34 HI0.out HZ0.out HZ1.out HZ2.out rfl (.slice A7 4 k7) 4 [⟨#[110, 117, 109, 98, 101, 114]⟩, nm, swi, spl] rfl HO.out 2 [.string ⟨#[114, 105, 103, 104, 116]⟩, .string sfi] [⟨#[114, 105, 103, 104, 116]⟩, sfi] rfl rfl rfl (by omega) hzB ?_); intro A9 k9 w9 hown9 hg9)
      have HFn := Lib.hid (grown_type HO.out hg9 HF.out (by decide)); have HCn := Lib.hid (grown_type HO.out hg9 HC.out (by decide))
      have HBn : Hid (Below w.heap.size w w9) := Lib.hid (HB.out.trans ⟨hg9.os, hg9.tape, hg9.output, hg9.size, fun k hk => hg9.block k (by omega) (fun e => by have := HO.out.lt k e.symm; omega)⟩)
      have HOn := Lib.hid hown9
      clear f0 f1 f2 f3 f4 f5 f6 f7 c0_ c1 c2 c3 c4 c5 c6 c7 c8
      clear HF HC HB HO hg9 hown9 hzB
      have HF := HFn; have HC := HCn; have HB := HBn; have HO := HOn
      clear HFn HCn HBn HOn
      have hzB := HB.out.size
      obtain ⟨⟨f0, f1, f2, f3, f4, f5, f6⟩, f7⟩ := obox7 HF.out
      obtain ⟨⟨c0_, c1, c2, c3, c4, c5, c6, c7⟩, -, c8⟩ := obox8f HC.out
      cases ne with
      | false =>
        have hWL : WW.map bs = [⟨#[110, 117, 109, 98, 101, 114]⟩, nm, swi, spl, ⟨#[114, 105, 103, 104, 116]⟩, sfi] := by
          rw [← HWW.out]
          simp [colT, pT, sT, nT, kwL, bs_self, HSwi.out, HSpl.out, HSfi.out, HM.out, sdL] <;> decide
        have hWN : WW.length = 6 := by have := congrArg List.length hWL; simpa using this
        obtain ⟨g9, rfl, hst, hle, -⟩ := own_sts HO.out (by decide)
        have HEND := Lib.hid (show RetCW WW w (.returned (.slice (some ⟨g9, 0, none⟩) 6 k9)) w9 from ⟨g9, k9, by rw [hWN], by rw [hWN]; exact hle, by rw [hWL]; exact hst, HB.out⟩)
        clear hWL hWN hst hle
        go_wp2
        go_ret
        exact HEND.out
      | true =>
        go_upto_region 14 with (at_builtin; (with_reducible refine wpList_push_strs rfl _ _ 34 rfl w.heap.size i0 (.string ⟨#[]⟩) Tryz.underlying34 HI0.out HZ0.out HZ1.out HZ2.out rfl (.slice A9 6 k9) 6 [⟨#[110, 117, 109, 98, 101, 114]⟩, nm, swi, spl, ⟨#[114, 105, 103, 104, 116]⟩, sfi] rfl HO.out 1 [.string ⟨#[110, 101, 101, 100]⟩] [⟨#[110, 101, 101, 100]⟩] rfl rfl rfl (by omega) hzB ?_); intro A10 k10 w10 hown10 hg10)
        have HFn := Lib.hid (grown_type HO.out hg10 HF.out (by decide)); have HCn := Lib.hid (grown_type HO.out hg10 HC.out (by decide))
        have HBn : Hid (Below w.heap.size w w10) := Lib.hid (HB.out.trans ⟨hg10.os, hg10.tape, hg10.output, hg10.size, fun k hk => hg10.block k (by omega) (fun e => by have := HO.out.lt k e.symm; omega)⟩)
        have HOn := Lib.hid hown10
        clear f0 f1 f2 f3 f4 f5 f6 f7 c0_ c1 c2 c3 c4 c5 c6 c7 c8
        clear HF HC HB HO hg10 hown10 hzB
        have HF := HFn; have HC := HCn; have HB := HBn; have HO := HOn
        clear HFn HCn HBn HOn
        have hzB := HB.out.size
        obtain ⟨⟨f0, f1, f2, f3, f4, f5, f6⟩, f7⟩ := obox7 HF.out
        obtain ⟨⟨c0_, c1, c2, c3, c4, c5, c6, c7⟩, -, c8⟩ := obox8f HC.out
        have hWL : WW.map bs = [⟨#[110, 117, 109, 98, 101, 114]⟩, nm, swi, spl, ⟨#[114, 105, 103, 104, 116]⟩, sfi, ⟨#[110, 101, 101, 100]⟩] := by
          rw [← HWW.out]
          simp [colT, pT, sT, nT, kwL, bs_self, HSwi.out, HSpl.out, HSfi.out, HM.out, sdL] <;> decide
        have hWN : WW.length = 7 := by have := congrArg List.length hWL; simpa using this
        obtain ⟨g9, rfl, hst, hle, -⟩ := own_sts HO.out (by decide)
        have HEND := Lib.hid (show RetCW WW w (.returned (.slice (some ⟨g9, 0, none⟩) 7 k10)) w10 from ⟨g9, k10, by rw [hWN], by rw [hWN]; exact hle, by rw [hWL]; exact hst, HB.out⟩)
        clear hWL hWN hst hle
        go_wp2
        go_ret
        exact HEND.out
  · have e1 : (m == 0) = false := by simpa using hm
    have HM := Lib.hid hm
    clear hm
    cases ne with
    | false =>
      have hWL : WW.map bs = [⟨#[110, 117, 109, 98, 101, 114]⟩, nm, swi, spl] := by
        rw [← HWW.out]
        simp [colT, pT, sT, nT, kwL, bs_self, HSwi.out, HSpl.out, HM.out] <;> decide
      have hWN : WW.length = 4 := by have := congrArg List.length hWL; simpa using this
      obtain ⟨g9, rfl, hst, hle, -⟩ := own_sts HO.out (by decide)
      have HEND := Lib.hid (show RetCW WW w (.returned (.slice (some ⟨g9, 0, none⟩) 4 k7)) w7 from ⟨g9, k7, by rw [hWN], by rw [hWN]; exact hle, by rw [hWL]; exact hst, HB.out⟩)
      clear hWL hWN hst hle
      go_wp2
      go_ret
      exact HEND.out
    | true =>
      go_upto_region 14 with (at_builtin; (with_reducible refine wpList_push_strs rfl _ _ 34 rfl w.heap.size i0 (.string ⟨#[]⟩) Tryz.underlying34 HI0.out HZ0.out HZ1.out HZ2.out rfl (.slice A7 4 k7) 4 [⟨#[110, 117, 109, 98, 101, 114]⟩, nm, swi, spl] rfl HO.out 1 [.string ⟨#[110, 101, 101, 100]⟩] [⟨#[110, 101, 101, 100]⟩] rfl rfl rfl (by omega) hzB ?_); intro A8 k8 w8 hown8 hg8)
      have HFn := Lib.hid (grown_type HO.out hg8 HF.out (by decide)); have HCn := Lib.hid (grown_type HO.out hg8 HC.out (by decide))
      have HBn : Hid (Below w.heap.size w w8) := Lib.hid (HB.out.trans ⟨hg8.os, hg8.tape, hg8.output, hg8.size, fun k hk => hg8.block k (by omega) (fun e => by have := HO.out.lt k e.symm; omega)⟩)
      have HOn := Lib.hid hown8
      clear f0 f1 f2 f3 f4 f5 f6 f7 c0_ c1 c2 c3 c4 c5 c6 c7 c8
      clear HF HC HB HO hg8 hown8 hzB
      have HF := HFn; have HC := HCn; have HB := HBn; have HO := HOn
      clear HFn HCn HBn HOn
      have hzB := HB.out.size
      obtain ⟨⟨f0, f1, f2, f3, f4, f5, f6⟩, f7⟩ := obox7 HF.out
      obtain ⟨⟨c0_, c1, c2, c3, c4, c5, c6, c7⟩, -, c8⟩ := obox8f HC.out
      have hWL : WW.map bs = [⟨#[110, 117, 109, 98, 101, 114]⟩, nm, swi, spl, ⟨#[110, 101, 101, 100]⟩] := by
        rw [← HWW.out]
        simp [colT, pT, sT, nT, kwL, bs_self, HSwi.out, HSpl.out, HM.out] <;> decide
      have hWN : WW.length = 5 := by have := congrArg List.length hWL; simpa using this
      obtain ⟨g9, rfl, hst, hle, -⟩ := own_sts HO.out (by decide)
      have HEND := Lib.hid (show RetCW WW w (.returned (.slice (some ⟨g9, 0, none⟩) 5 k8)) w8 from ⟨g9, k8, by rw [hWN], by rw [hWN]; exact hle, by rw [hWL]; exact hst, HB.out⟩)
      clear hWL hWN hst hle
      go_wp2
      go_ret
      exact HEND.out
end Go.Proofs.YtfgnollclmimnaaGreatDoor
