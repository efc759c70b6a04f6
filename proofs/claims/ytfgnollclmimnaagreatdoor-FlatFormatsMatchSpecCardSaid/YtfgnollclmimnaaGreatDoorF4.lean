
/- The walks of CheckFormat's parts: marks, what is idle, columns. (Printed by genF4.py.) -/
import Derived.Test.YtfgnollclmimnaaGreatDoorF3
namespace Go.Proofs.YtfgnollclmimnaaGreatDoor
open Go.RowKit Limb Nmb
set_option linter.unusedVariables false
set_option linter.unusedSimpArgs false

set_option maxHeartbeats 1000000 in
set_option maxRecDepth 100000 in
theorem marks_c (f : Fmt) (A : Option Addr) (c : Nat) (w : World) (hm : 0 ≤ f.mark ∧ f.mark ≤ 255) (hq : 0 ≤ f.quote ∧ f.quote ≤ 255) :
    Calls Tryz.prog 37 #[fmtG f A c] w (RetI (marksF f.mark f.quote) w) := by
  obtain ⟨m, q, ks, hd, tl, ct, sm⟩ := f
  simp only at *
  unfold fmtG
  simp only
  by_cases h0 : m = 0
  · subst h0
    by_cases h1 : q = 0
    · subst h1
      go_enter Tryz.func37, Tryz.ntmps37
      go_wp2
      go_ret
      exact ⟨rfl, by go_grown⟩
    · rw [show marksF 0 q = 3 by unfold marksF; simp [h1]]
      have k1 : (q != 0) = true := by simpa using h1
      clear h1
      go_enter Tryz.func37, Tryz.ntmps37
      go_wp2
      go_ret
      exact ⟨rfl, by go_grown⟩
  have k0 : (m != 0) = true := by simpa using h0
  have k0' : (m == 0) = false := by simpa using h0
  have HM := Lib.hid (fun w => markf_c m w hm)
  have HQ := Lib.hid (fun w => markf_c q w hq)
  have hF := heap_new w (.cells #[.int .u8 m, .int .u8 q, .slice A ks.length c, .string hd, .string tl, .string ct, .string sm] 24) rfl
  have hb0 : Below w.heap.size w (w.alloc (.cells #[.int .u8 m, .int .u8 q, .slice A ks.length c, .string hd, .string tl, .string ct, .string sm] 24)) := by go_grown
  cases e1 : markF m with
  | true =>
    rw [e1] at HM
    rw [show marksF m q = 12 by unfold marksF; simp [h0, e1]]
    clear e1 h0
    go_enter Tryz.func37, Tryz.ntmps37
    go_wp2_with fail
    refine (HM.out _).mono ?_
    rintro e w2 ⟨rfl, hb2⟩
    obtain ⟨⟨f0, f1, f2, f3, f4, f5, f6⟩, f7⟩ := obox7 (heap_below hF hb2)
    have hB2 := below_then hb2 hb0 hb0.size
    go_wp2
    go_ret
    exact ⟨rfl, hB2⟩
  | false =>
    rw [e1] at HM
    by_cases h1 : q = 0
    · subst h1
      rw [show marksF m 0 = 0 by unfold marksF; simp [h0, e1]]
      clear e1 h0
      go_enter Tryz.func37, Tryz.ntmps37
      go_wp2_with fail
      refine (HM.out _).mono ?_
      rintro e w2 ⟨rfl, hb2⟩
      obtain ⟨⟨f0, f1, f2, f3, f4, f5, f6⟩, f7⟩ := obox7 (heap_below hF hb2)
      have hB2 := below_then hb2 hb0 hb0.size
      go_wp2
      go_ret
      exact ⟨rfl, hB2⟩
    · have k1 : (q != 0) = true := by simpa using h1
      cases e2 : markF q with
      | true =>
        rw [e2] at HQ
        rw [show marksF m q = 12 by unfold marksF; simp [h0, e1, h1, e2]]
        clear e1 h0 e2 h1
        go_enter Tryz.func37, Tryz.ntmps37
        go_wp2_with fail
        refine (HM.out _).mono ?_
        rintro e w2 ⟨rfl, hb2⟩
        obtain ⟨⟨f0, f1, f2, f3, f4, f5, f6⟩, f7⟩ := obox7 (heap_below hF hb2)
        have hB2 := below_then hb2 hb0 hb0.size
        go_wp2_with fail
        refine (HQ.out _).mono ?_
        rintro e w3 ⟨rfl, hb3⟩
        have hB3 := below_then hb3 hB2 hB2.size
        obtain ⟨⟨f0, f1, f2, f3, f4, f5, f6⟩, f7⟩ := obox7 (heap_below (heap_below hF hb2) hb3)
        go_wp2
        go_ret
        exact ⟨rfl, hB3⟩
      | false =>
        rw [e2] at HQ
        by_cases h3 : m = q
        · subst h3
          rw [show marksF m m = 12 by unfold marksF; simp [h0]]
          clear e1 h0 e2 h1
          go_enter Tryz.func37, Tryz.ntmps37
          go_wp2_with fail
          refine (HM.out _).mono ?_
          rintro e w2 ⟨rfl, hb2⟩
          obtain ⟨⟨f0, f1, f2, f3, f4, f5, f6⟩, f7⟩ := obox7 (heap_below hF hb2)
          have hB2 := below_then hb2 hb0 hb0.size
          go_wp2_with fail
          refine (HQ.out _).mono ?_
          rintro e w3 ⟨rfl, hb3⟩
          have hB3 := below_then hb3 hB2 hB2.size
          obtain ⟨⟨f0, f1, f2, f3, f4, f5, f6⟩, f7⟩ := obox7 (heap_below (heap_below hF hb2) hb3)
          go_wp2
          go_ret
          exact ⟨rfl, hB3⟩
        · have k3 : (m == q) = false := by simpa using h3
          rw [show marksF m q = 0 by unfold marksF; simp [h0, e1, h1, e2, h3]]
          clear e1 h0 e2 h1 h3
          go_enter Tryz.func37, Tryz.ntmps37
          go_wp2_with fail
          refine (HM.out _).mono ?_
          rintro e w2 ⟨rfl, hb2⟩
          obtain ⟨⟨f0, f1, f2, f3, f4, f5, f6⟩, f7⟩ := obox7 (heap_below hF hb2)
          have hB2 := below_then hb2 hb0 hb0.size
          go_wp2_with fail
          refine (HQ.out _).mono ?_
          rintro e w3 ⟨rfl, hb3⟩
          have hB3 := below_then hb3 hB2 hB2.size
          obtain ⟨⟨f0, f1, f2, f3, f4, f5, f6⟩, f7⟩ := obox7 (heap_below (heap_below hF hb2) hb3)
          go_wp2
          go_ret
          exact ⟨rfl, hB3⟩

set_option maxHeartbeats 2000000 in
set_option maxRecDepth 100000 in
theorem idle_c (f : Fmt) (A : Option Addr) (c : Nat) (k : Col) (w : World) :
    Calls Tryz.prog 86 #[fmtG f A c, colG k] w (RetB (idleB f.mark k) w) := by
  obtain ⟨m, q, ks, hd, tl, ct, sm⟩ := f
  simp only at *
  unfold fmtG
  simp only
  obtain ⟨nm, kd, wd, pl, fo, ri, fi, ne⟩ := k
  unfold colG
  simp only
  by_cases h1 : kd = 2
  · subst h1
    by_cases h3 : fo = 0
    · subst h3
      by_cases h4 : m = 0
      · subst h4
        rw [show idleB 0 ⟨nm, 2, wd, pl, 0, ri, fi, ne⟩ = true by unfold idleB; simp []]
        go_enter Tryz.func86, Tryz.ntmps86
        go_wp2
        go_quiet (fail)
        go_wp2
        go_ret
        exact ⟨rfl, below_drewN (by go_grown) _⟩
      · have h4a : (m == 0) = false := by simpa using h4
        cases ri with
        | true =>
          rw [show idleB m ⟨nm, 2, wd, pl, 0, true, fi, ne⟩ = false by unfold idleB; simp [h4]]
          go_enter Tryz.func86, Tryz.ntmps86
          go_wp2
          go_quiet (fail)
          go_wp2
          go_ret
          exact ⟨rfl, below_drewN (by go_grown) _⟩
        | false =>
          by_cases h5 : fi = 0
          · subst h5
            rw [show idleB m ⟨nm, 2, wd, pl, 0, false, 0, ne⟩ = true by unfold idleB; simp [h4]]
            go_enter Tryz.func86, Tryz.ntmps86
            go_wp2
            go_quiet (fail)
            go_wp2
            go_ret
            exact ⟨rfl, below_drewN (by go_grown) _⟩
          · have h5a : (fi == 0) = false := by simpa using h5
            rw [show idleB m ⟨nm, 2, wd, pl, 0, false, fi, ne⟩ = false by unfold idleB; simp [h4, h5]]
            go_enter Tryz.func86, Tryz.ntmps86
            go_wp2
            go_quiet (fail)
            go_wp2
            go_ret
            exact ⟨rfl, below_drewN (by go_grown) _⟩
    · have h3a : (fo == 0) = false := by simpa using h3
      rw [show idleB m ⟨nm, 2, wd, pl, fo, ri, fi, ne⟩ = false by unfold idleB; simp [h3]]
      go_enter Tryz.func86, Tryz.ntmps86
      go_wp2
      go_quiet (fail)
      go_wp2
      go_ret
      exact ⟨rfl, below_drewN (by go_grown) _⟩
  by_cases h1b : kd = 3
  · subst h1b
    clear h1
    by_cases h2 : pl = 0
    · subst h2
      cases ri with
      | true =>
        rw [show idleB m ⟨nm, 3, wd, 0, fo, true, fi, ne⟩ = false by unfold idleB; simp []]
        go_enter Tryz.func86, Tryz.ntmps86
        go_wp2
        go_quiet (fail)
        go_wp2
        go_ret
        exact ⟨rfl, below_drewN (by go_grown) _⟩
      | false =>
        by_cases h5 : fi = 0
        · subst h5
          rw [show idleB m ⟨nm, 3, wd, 0, fo, false, 0, ne⟩ = true by unfold idleB; simp []]
          go_enter Tryz.func86, Tryz.ntmps86
          go_wp2
          go_quiet (fail)
          go_wp2
          go_ret
          exact ⟨rfl, below_drewN (by go_grown) _⟩
        · have h5a : (fi == 0) = false := by simpa using h5
          rw [show idleB m ⟨nm, 3, wd, 0, fo, false, fi, ne⟩ = false by unfold idleB; simp [h5]]
          go_enter Tryz.func86, Tryz.ntmps86
          go_wp2
          go_quiet (fail)
          go_wp2
          go_ret
          exact ⟨rfl, below_drewN (by go_grown) _⟩
    · have h2a : (pl == 0) = false := by simpa using h2
      rw [show idleB m ⟨nm, 3, wd, pl, fo, ri, fi, ne⟩ = false by unfold idleB; simp [h2]]
      go_enter Tryz.func86, Tryz.ntmps86
      go_wp2
      go_quiet (fail)
      go_wp2
      go_ret
      exact ⟨rfl, below_drewN (by go_grown) _⟩
  have h1a : (kd == 2) = false := by simpa using h1
  have h1c : (kd == 3) = false := by simpa using h1b
  by_cases h2 : pl = 0
  · subst h2
    by_cases h3 : fo = 0
    · subst h3
      by_cases h4 : m = 0
      · subst h4
        rw [show idleB 0 ⟨nm, kd, wd, 0, 0, ri, fi, ne⟩ = true by unfold idleB; simp [h1, h1b]]
        go_enter Tryz.func86, Tryz.ntmps86
        go_wp2
        go_quiet (fail)
        go_wp2
        go_ret
        exact ⟨rfl, below_drewN (by go_grown) _⟩
      · have h4a : (m == 0) = false := by simpa using h4
        cases ri with
        | true =>
          rw [show idleB m ⟨nm, kd, wd, 0, 0, true, fi, ne⟩ = false by unfold idleB; simp [h1, h1b, h4]]
          go_enter Tryz.func86, Tryz.ntmps86
          go_wp2
          go_quiet (fail)
          go_wp2
          go_ret
          exact ⟨rfl, below_drewN (by go_grown) _⟩
        | false =>
          by_cases h5 : fi = 0
          · subst h5
            rw [show idleB m ⟨nm, kd, wd, 0, 0, false, 0, ne⟩ = true by unfold idleB; simp [h1, h1b, h4]]
            go_enter Tryz.func86, Tryz.ntmps86
            go_wp2
            go_quiet (fail)
            go_wp2
            go_ret
            exact ⟨rfl, below_drewN (by go_grown) _⟩
          · have h5a : (fi == 0) = false := by simpa using h5
            rw [show idleB m ⟨nm, kd, wd, 0, 0, false, fi, ne⟩ = false by unfold idleB; simp [h1, h1b, h4, h5]]
            go_enter Tryz.func86, Tryz.ntmps86
            go_wp2
            go_quiet (fail)
            go_wp2
            go_ret
            exact ⟨rfl, below_drewN (by go_grown) _⟩
    · have h3a : (fo == 0) = false := by simpa using h3
      rw [show idleB m ⟨nm, kd, wd, 0, fo, ri, fi, ne⟩ = false by unfold idleB; simp [h1, h1b, h3]]
      go_enter Tryz.func86, Tryz.ntmps86
      go_wp2
      go_quiet (fail)
      go_wp2
      go_ret
      exact ⟨rfl, below_drewN (by go_grown) _⟩
  · have h2a : (pl == 0) = false := by simpa using h2
    rw [show idleB m ⟨nm, kd, wd, pl, fo, ri, fi, ne⟩ = false by unfold idleB; simp [h1, h1b, h2]]
    go_enter Tryz.func86, Tryz.ntmps86
    go_wp2
    go_quiet (fail)
    go_wp2
    go_ret
    exact ⟨rfl, below_drewN (by go_grown) _⟩

end Go.Proofs.YtfgnollclmimnaaGreatDoor
