/- Values of rows, plain: what is a value, what is written of it, what is wrong with it and with a row. -/
import Derived.Test.YtbnjejenejoibaaGreatDoorF6
import Derived.Test.YtbnjejenejoibaaGreatDoorT3
import Derived.Test.YtbnjejenejoibaaGreatDoorM0
import Derived.Test.YtbnjejenejoibaaGreatDoorT1
import Derived.Test.YtbnjejenejoibaaGreatDoorE4
import Derived.Test.YtbnjejenejoibaaGreatDoorUN
import Derived.Test.YtbnjejenejoibaaGreatDoorF3
import Derived.Deep.RegionHeld3
import Derived.Test.YtbnjejenejoibaaGreatDoorA6
-- merged: V0 K4 F4 E3 K5 E5 T4 T5
namespace Go.Proofs.YtbnjejenejoibaaGreatDoor
open Limb Nmb Work
set_option linter.unusedVariables false
set_option linter.unusedSimpArgs false
def leastF (u : Int) : Nat -> Int × Int
 | 0 => (u, 0)
 | p + 1 => if u % 10 = 0 then leastF (u / 10) p else (u, ((p + 1 : Nat) : Int))
theorem least_step {u : Int} {p : Nat} (h : u % 10 = 0) : leastF u (p + 1) = leastF (u / 10) p := if_pos h
theorem least_stop {u : Int} {p : Nat} (h : ¬ u % 10 = 0) : leastF u (p + 1) = (u, ((p + 1 : Nat) : Int)) := if_neg h
theorem tmod_ten {u : Int} : (u.tmod 10 = 0) ↔ (u % 10 = 0) := by
 constructor <;> intro h <;> have := Int.tmod_eq_emod (a := u) (b := 10) <;> split at this <;> omega
theorem tdiv_ten {u : Int} (h : u % 10 = 0) : u.tdiv 10 = u / 10 := Int.tdiv_eq_ediv_of_dvd (Int.dvd_of_emod_eq_zero h)
def lstB (u p : Int) : Bool := decide (leastF u p.toNat = (u, p))
def sdig (z : Int) : List UInt8 := (if z < 0 then [45] else []) ++ Lib.decDigits z.natAbs
theorem sdig_neg {z : Int} (h : z < 0) : sdig z = 45 :: Lib.decDigits z.natAbs := by unfold sdig; rw [if_pos h]; rfl
theorem sdig_pos {z : Int} (h : ¬ z < 0) : sdig z = Lib.decDigits z.natAbs := by unfold sdig; rw [if_neg h]; rfl
noncomputable def dateC (day : Int) : Int × Int × Int := if h : 1 <= day /\ day <= 3652059 then (⟨(date_ex h.1 h.2).choose, (date_ex h.1 h.2).choose_spec.choose, (date_ex h.1 h.2).choose_spec.choose_spec.choose⟩) else (0, 0, 0)
theorem dateC_is {day : Int} (h : 1 <= day /\ day <= 3652059) : DateIs day (dateC day).1 (dateC day).2.1 (dateC day).2.2 := by
 unfold dateC
 rw [dif_pos h]
 exact (date_ex h.1 h.2).choose_spec.choose_spec.choose_spec
noncomputable def dayS (form day : Int) : ByteArray := dtS form day (dateC day).1 (dateC day).2.1 (dateC day).2.2 (dateC (thu day)).1
theorem num_rng {y m d : Int} (h : dateB y m d = true) : 1 <= num y m d /\ num y m d <= 3652059 := num_day h
theorem readO_day {form pv : Int} {l : List UInt8} {v : Int} (h : readO form pv l = some v) : 1 <= v /\ v <= 3652059 := by
 have hd : ∀ y m d : Int, dayO y m d = some v -> 1 <= v /\ v <= 3652059 := fun y m d hh => by
  unfold dayO at hh
  split at hh
  ·injection hh with hh; rw [<- hh]; exact num_rng (by assumption)
  ·cases hh
 have hw : ∀ y m d : Int, weekO y m d = some v -> 1 <= v /\ v <= 3652059 := fun y m d hh => by
  unfold weekO at hh
  split at hh
  ·rename_i hb
   injection hh with hh
   rw [<- hh]
   exact (of_decide_eq_true hb).2.2.1
  ·cases hh
 unfold readO at h
 repeat' split at h
 all_goals first | (exact hd _ _ _ h) | (exact hw _ _ _ h) | (cases h)
theorem made_dec {z : Int} {p : Int} (hp : 0 <= p /\ p <= 9) (h : (made z p).2.2 = 0) : decB (made z p).1 (made z p).2.1 = true := by
 unfold made at h ⊢
 by_cases hz : z.natAbs <= 1000000000000000
 ·rw [if_pos hz]
  exact decB_mk ⟨by show -1000000000000000 <= z; omega, by show z <= 1000000000000000; omega, hp.1, hp.2⟩
 ·rw [if_neg hz] at h
  cases h
theorem readR_dec {neg : Bool} {l : List UInt8} {nb : Nat} (hn : nb <= 9) (h : (readR neg l nb).2.2 = 0) : decB (readR neg l nb).1 (readR neg l nb).2.1 = true := by
 unfold readR at h ⊢
 cases neg with
 | true =>
  simp only [if_true] at h ⊢
  by_cases hz : numL l = 0
  ·rw [if_pos hz] at h; cases h
  ·rw [if_neg hz] at h ⊢; exact made_dec (by omega) h
 | false =>
  simp only [Bool.false_eq_true, if_false] at h ⊢
  exact made_dec (by omega) h
theorem readText_dec {l : List UInt8} (h : (readText l).2.2 = 0) : decB (readText l).1 (readText l).2.1 = true := by
 unfold readText at h ⊢
 simp only at h ⊢
 generalize hC : cutL (if (l.head? == some 45) = true then l.tail else l) 46 = C at h ⊢
 by_cases hb : (decide (40 < l.length) || !wholeB C.1 || (C.2.2 && (!digB C.2.1 || decide (9 < C.2.1.length)))) = true
 ·rw [if_pos hb] at h; cases h
 ·rw [if_neg hb] at h ⊢
  refine readR_dec ?_ h
  have h1 := (cutL_len (if (l.head? == some 45) = true then l.tail else l) 46).2
  rw [hC] at h1
  cases hc : C.2.2 with
  | false => rw [h1 hc]; simp
  | true =>
   rw [hc] at hb
   simp at hb
   omega
def decOk (places : Int) (l : List UInt8) : Bool := decide ((readText l).2.2 = 0) && decide ((readText l).2.1 <= places) && lstB (readText l).1 (readText l).2.1
def dayOk (l : List UInt8) : Bool := (readO 1 1 l).isSome
def txtOk (l : List UInt8) : Bool := inL l 32 126 && decide (Lib.trimS l [32] = l)
def valOk (c : Col) (l : List UInt8) : Bool := if c.kind = 2 then decOk c.places l else if c.kind = 3 then dayOk l else txtOk l
def dayN (form : Int) (l : List UInt8) : Int := (readO form 1 l).getD 0
noncomputable def wrS (mark : Int) (c : Col) (s : ByteArray) : ByteArray :=
 if s = ⟨#[]⟩ then ⟨#[]⟩
 else if c.kind = 2 /\ mark = 0 then bs (sdig (scaled (readText s.data.toList).1 (readText s.data.toList).2.1 c.places.toNat))
 else if c.kind = 3 then dayS c.form (dayN 1 s.data.toList)
 else s
noncomputable def valF (mark quote : Int) (c : Col) (s : ByteArray) : Int :=
 if s = ⟨#[]⟩ then (if c.need = true then 13 else 0)
 else if valOk c s.data.toList = false then 6
 else if c.width < (wrS mark c s).size then 16
 else if mark ≠ 0 /\ quote = 0 /\ 0 <= Lib.indexByte s.data.toList (UInt8.ofNat mark.toNat) then 12
 else 0
def frF (g : Nat -> Int) : Nat -> Int × Int
 | 0 => (0, 0)
 | n + 1 => if (frF g n).2 = 0 then (if g n = 0 then (0, 0) else ((n : Int), g n)) else frF g n
theorem frF_no {g : Nat -> Int} : ∀ {n : Nat}, (∀ j, j < n -> g j = 0) -> frF g n = (0, 0)
 | 0, _ => rfl
 | n + 1, h => by
  unfold frF
  rw [frF_no (fun j hj => h j (by omega)), if_pos rfl, if_pos (h n (by omega))]
theorem frF_hit {g : Nat -> Int} {j : Nat} (h : ∀ t, t < j -> g t = 0) (hj : g j ≠ 0) : ∀ {n : Nat}, j < n -> frF g n = ((j : Int), g j)
 | n + 1, hn => by
  unfold frF
  rcases Nat.lt_or_ge j n with hlt | hge
  ·rw [frF_hit h hj hlt, if_neg hj]
  ·obtain rfl : j = n := by omega
   rw [frF_no h, if_pos rfl, if_neg hj]
structure RowP where
 tag : ByteArray
 vals : List ByteArray
 deriving DecidableEq
noncomputable def rowF (f : Fmt) (r : RowP) : Int × Int :=
 if katI f r.tag < 0 then (0, 9)
 else if r.vals.length ≠ (katK f r.tag).fields.length then (0, 3)
 else frF (fun j => valF f.mark f.quote (cA (katK f r.tag).fields j) (wd r.vals j)) (katK f r.tag).fields.length
theorem dec_cases (pl : Int) (l : List UInt8) : ((readText l).2.2 ≠ 0 /\ decOk pl l = false) ∨ ((readText l).2.2 = 0 /\ ∃ p : Nat, (readText l).2.1 = (p : Int) /\ decB (readText l).1 (p : Int) = true /\ decOk pl l = (decide ((p : Int) <= pl) && decide (leastF (readText l).1 p = ((readText l).1, (p : Int))))) := by
 by_cases h : (readText l).2.2 = 0
 ·refine .inr ⟨h, (readText l).2.1.toNat, ?_⟩
  have hd := readText_dec h
  have h1 := decB_out hd
  have e : (readText l).2.1 = ((readText l).2.1.toNat : Int) := by omega
  refine ⟨e, by rw [<- e]; exact hd, ?_⟩
  unfold decOk lstB
  rw [<- e, decide_eq_true h]
  rfl
 ·exact .inl ⟨h, by unfold decOk; rw [decide_eq_false h]; rfl⟩
end Go.Proofs.YtbnjejenejoibaaGreatDoor
namespace Go.Proofs.YtbnjejenejoibaaGreatDoor
open Go.RowKit Limb Nmb
set_option linter.unusedVariables false
set_option linter.unusedSimpArgs false
theorem isdigs_c (s : ByteArray) (w : World) (hs : s.size <= 9223372036854775807) :
  Calls Tryz.prog 85 #[.string s] w fun e w' => w = w' /\ e = .returned (.bool (digs s.data.toList)) := by
 rw [<- digB_digs]; exact isdig_c s w hs
set_option maxHeartbeats 1000000 in
set_option maxRecDepth 100000 in
theorem marks_c (f : Fmt) (A : Option Addr) (c : Nat) (w : World) (hm : 0 <= f.mark /\ f.mark <= 255) (hq : 0 <= f.quote /\ f.quote <= 255) :
  Calls Tryz.prog 59 #[fmtG f A c] w (RetI (marksF f.mark f.quote) w) := by
 obtain ⟨m, q, ks, hd, tl, ct, sm⟩ := f
 simp only at *
 unfold fmtG
 simp only
 by_cases h0 : m = 0
 ·subst h0
  by_cases h1 : q = 0
  ·subst h1
   go_enter Tryz.func59, Tryz.ntmps59
   go_wp2
   go_ret
   exact ⟨rfl, by go_grown⟩
  ·rw [show marksF 0 q = 3 by unfold marksF; simp [h1]]
   have k1 : (q != 0) = true := by simpa using h1
   clear h1
   go_enter Tryz.func59, Tryz.ntmps59
   go_wp2
   go_ret
   exact ⟨rfl, by go_grown⟩
 have k0 : (m != 0) = true := by simpa using h0
 have k0' : (m == 0) = false := by simpa using h0
 have HM := Lib.hid (fun w => markf_c m w hm)
 have HQ := Lib.hid (fun w => markf_c q w hq)
 have hF := heap_new w (.cells #[.int .u8 m, .int .u8 q, .slice A ks.length c, .string hd, .string tl, .string ct, .string sm] 24) rfl
 have hb0 : Below w.heap.size w (w.alloc (.cells #[.int .u8 m, .int .u8 q, .slice A ks.length c, .string hd, .string tl, .string ct, .string sm] 24)) := by go_grown
 cases e1 : markF m with
 | true =>
  rw [e1] at HM
  rw [show marksF m q = 12 by unfold marksF; simp [h0, e1]]
  clear e1 h0
  go_enter Tryz.func59, Tryz.ntmps59
  go_wp2_with fail
  refine (HM.out _).mono ?_
  rintro e w2 ⟨rfl, hb2⟩
  obtain ⟨⟨f0, f1, f2, f3, f4, f5, f6⟩, f7⟩ := obox7 (heap_below hF hb2)
  have hB2 := below_then hb2 hb0 hb0.size
  go_wp2
  go_ret
  exact ⟨rfl, hB2⟩
 | false =>
  rw [e1] at HM
  by_cases h1 : q = 0
  ·subst h1
   rw [show marksF m 0 = 0 by unfold marksF; simp [h0, e1]]
   clear e1 h0
   go_enter Tryz.func59, Tryz.ntmps59
   go_wp2_with fail
   refine (HM.out _).mono ?_
   rintro e w2 ⟨rfl, hb2⟩
   obtain ⟨⟨f0, f1, f2, f3, f4, f5, f6⟩, f7⟩ := obox7 (heap_below hF hb2)
   have hB2 := below_then hb2 hb0 hb0.size
   go_wp2
   go_ret
   exact ⟨rfl, hB2⟩
  ·have k1 : (q != 0) = true := by simpa using h1
   cases e2 : markF q with
   | true =>
    rw [e2] at HQ
    rw [show marksF m q = 12 by unfold marksF; simp [h0, e1, h1, e2]]
    clear e1 h0 e2 h1
    go_enter Tryz.func59, Tryz.ntmps59
    go_wp2_with fail
    refine (HM.out _).mono ?_
    rintro e w2 ⟨rfl, hb2⟩
    obtain ⟨⟨f0, f1, f2, f3, f4, f5, f6⟩, f7⟩ := obox7 (heap_below hF hb2)
    have hB2 := below_then hb2 hb0 hb0.size
    go_wp2_with fail
    refine (HQ.out _).mono ?_
    rintro e w3 ⟨rfl, hb3⟩
    have hB3 := below_then hb3 hB2 hB2.size
    obtain ⟨⟨f0, f1, f2, f3, f4, f5, f6⟩, f7⟩ := obox7 (heap_below (heap_below hF hb2) hb3)
    go_wp2
    go_ret
    exact ⟨rfl, hB3⟩
   | false =>
    rw [e2] at HQ
    by_cases h3 : m = q
    ·subst h3
     rw [show marksF m m = 12 by unfold marksF; simp [h0]]
     clear e1 h0 e2 h1
     go_enter Tryz.func59, Tryz.ntmps59
     go_wp2_with fail
     refine (HM.out _).mono ?_
     rintro e w2 ⟨rfl, hb2⟩
     obtain ⟨⟨f0, f1, f2, f3, f4, f5, f6⟩, f7⟩ := obox7 (heap_below hF hb2)
     have hB2 := below_then hb2 hb0 hb0.size
     go_wp2_with fail
     refine (HQ.out _).mono ?_
     rintro e w3 ⟨rfl, hb3⟩
     have hB3 := below_then hb3 hB2 hB2.size
     obtain ⟨⟨f0, f1, f2, f3, f4, f5, f6⟩, f7⟩ := obox7 (heap_below (heap_below hF hb2) hb3)
     go_wp2
     go_ret
     exact ⟨rfl, hB3⟩
    ·have k3 : (m == q) = false := by simpa using h3
     rw [show marksF m q = 0 by unfold marksF; simp [h0, e1, h1, e2, h3]]
     clear e1 h0 e2 h1 h3
     go_enter Tryz.func59, Tryz.ntmps59
     go_wp2_with fail
     refine (HM.out _).mono ?_
     rintro e w2 ⟨rfl, hb2⟩
     obtain ⟨⟨f0, f1, f2, f3, f4, f5, f6⟩, f7⟩ := obox7 (heap_below hF hb2)
     have hB2 := below_then hb2 hb0 hb0.size
     go_wp2_with fail
     refine (HQ.out _).mono ?_
     rintro e w3 ⟨rfl, hb3⟩
     have hB3 := below_then hb3 hB2 hB2.size
     obtain ⟨⟨f0, f1, f2, f3, f4, f5, f6⟩, f7⟩ := obox7 (heap_below (heap_below hF hb2) hb3)
     go_wp2
     go_ret
     exact ⟨rfl, hB3⟩
set_option maxHeartbeats 2000000 in
set_option maxRecDepth 100000 in
theorem idle_c (f : Fmt) (A : Option Addr) (c : Nat) (k : Col) (w : World) :
  Calls Tryz.prog 146 #[fmtG f A c, colG k] w (RetB (idleB f.mark k) w) := by
 obtain ⟨m, q, ks, hd, tl, ct, sm⟩ := f
 simp only at *
 unfold fmtG
 simp only
 obtain ⟨nm, kd, wd, pl, fo, ri, fi, ne⟩ := k
 unfold colG
 simp only
 by_cases h1 : kd = 2
 ·subst h1
  by_cases h3 : fo = 0
  ·subst h3
   by_cases h4 : m = 0
   ·subst h4
    rw [show idleB 0 ⟨nm, 2, wd, pl, 0, ri, fi, ne⟩ = true by unfold idleB; simp []]
    go_enter Tryz.func146, Tryz.ntmps146
    go_wp2
    go_quiet (fail)
    go_wp2
    go_ret
    exact ⟨rfl, below_drewN (by go_grown) _⟩
   ·have h4a : (m == 0) = false := by simpa using h4
    cases ri with
    | true =>
     rw [show idleB m ⟨nm, 2, wd, pl, 0, true, fi, ne⟩ = false by unfold idleB; simp [h4]]
     go_enter Tryz.func146, Tryz.ntmps146
     go_wp2
     go_quiet (fail)
     go_wp2
     go_ret
     exact ⟨rfl, below_drewN (by go_grown) _⟩
    | false =>
     by_cases h5 : fi = 0
     ·subst h5
      rw [show idleB m ⟨nm, 2, wd, pl, 0, false, 0, ne⟩ = true by unfold idleB; simp [h4]]
      go_enter Tryz.func146, Tryz.ntmps146
      go_wp2
      go_quiet (fail)
      go_wp2
      go_ret
      exact ⟨rfl, below_drewN (by go_grown) _⟩
     ·have h5a : (fi == 0) = false := by simpa using h5
      rw [show idleB m ⟨nm, 2, wd, pl, 0, false, fi, ne⟩ = false by unfold idleB; simp [h4, h5]]
      go_enter Tryz.func146, Tryz.ntmps146
      go_wp2
      go_quiet (fail)
      go_wp2
      go_ret
      exact ⟨rfl, below_drewN (by go_grown) _⟩
  ·have h3a : (fo == 0) = false := by simpa using h3
   rw [show idleB m ⟨nm, 2, wd, pl, fo, ri, fi, ne⟩ = false by unfold idleB; simp [h3]]
   go_enter Tryz.func146, Tryz.ntmps146
   go_wp2
   go_quiet (fail)
   go_wp2
   go_ret
   exact ⟨rfl, below_drewN (by go_grown) _⟩
 by_cases h1b : kd = 3
 ·subst h1b
  clear h1
  by_cases h2 : pl = 0
  ·subst h2
   cases ri with
   | true =>
    rw [show idleB m ⟨nm, 3, wd, 0, fo, true, fi, ne⟩ = false by unfold idleB; simp []]
    go_enter Tryz.func146, Tryz.ntmps146
    go_wp2
    go_quiet (fail)
    go_wp2
    go_ret
    exact ⟨rfl, below_drewN (by go_grown) _⟩
   | false =>
    by_cases h5 : fi = 0
    ·subst h5
     rw [show idleB m ⟨nm, 3, wd, 0, fo, false, 0, ne⟩ = true by unfold idleB; simp []]
     go_enter Tryz.func146, Tryz.ntmps146
     go_wp2
     go_quiet (fail)
     go_wp2
     go_ret
     exact ⟨rfl, below_drewN (by go_grown) _⟩
    ·have h5a : (fi == 0) = false := by simpa using h5
     rw [show idleB m ⟨nm, 3, wd, 0, fo, false, fi, ne⟩ = false by unfold idleB; simp [h5]]
     go_enter Tryz.func146, Tryz.ntmps146
     go_wp2
     go_quiet (fail)
     go_wp2
     go_ret
     exact ⟨rfl, below_drewN (by go_grown) _⟩
  ·have h2a : (pl == 0) = false := by simpa using h2
   rw [show idleB m ⟨nm, 3, wd, pl, fo, ri, fi, ne⟩ = false by unfold idleB; simp [h2]]
   go_enter Tryz.func146, Tryz.ntmps146
   go_wp2
   go_quiet (fail)
   go_wp2
   go_ret
   exact ⟨rfl, below_drewN (by go_grown) _⟩
 have h1a : (kd == 2) = false := by simpa using h1
 have h1c : (kd == 3) = false := by simpa using h1b
 by_cases h2 : pl = 0
 ·subst h2
  by_cases h3 : fo = 0
  ·subst h3
   by_cases h4 : m = 0
   ·subst h4
    rw [show idleB 0 ⟨nm, kd, wd, 0, 0, ri, fi, ne⟩ = true by unfold idleB; simp [h1, h1b]]
    go_enter Tryz.func146, Tryz.ntmps146
    go_wp2
    go_quiet (fail)
    go_wp2
    go_ret
    exact ⟨rfl, below_drewN (by go_grown) _⟩
   ·have h4a : (m == 0) = false := by simpa using h4
    cases ri with
    | true =>
     rw [show idleB m ⟨nm, kd, wd, 0, 0, true, fi, ne⟩ = false by unfold idleB; simp [h1, h1b, h4]]
     go_enter Tryz.func146, Tryz.ntmps146
     go_wp2
     go_quiet (fail)
     go_wp2
     go_ret
     exact ⟨rfl, below_drewN (by go_grown) _⟩
    | false =>
     by_cases h5 : fi = 0
     ·subst h5
      rw [show idleB m ⟨nm, kd, wd, 0, 0, false, 0, ne⟩ = true by unfold idleB; simp [h1, h1b, h4]]
      go_enter Tryz.func146, Tryz.ntmps146
      go_wp2
      go_quiet (fail)
      go_wp2
      go_ret
      exact ⟨rfl, below_drewN (by go_grown) _⟩
     ·have h5a : (fi == 0) = false := by simpa using h5
      rw [show idleB m ⟨nm, kd, wd, 0, 0, false, fi, ne⟩ = false by unfold idleB; simp [h1, h1b, h4, h5]]
      go_enter Tryz.func146, Tryz.ntmps146
      go_wp2
      go_quiet (fail)
      go_wp2
      go_ret
      exact ⟨rfl, below_drewN (by go_grown) _⟩
  ·have h3a : (fo == 0) = false := by simpa using h3
   rw [show idleB m ⟨nm, kd, wd, 0, fo, ri, fi, ne⟩ = false by unfold idleB; simp [h1, h1b, h3]]
   go_enter Tryz.func146, Tryz.ntmps146
   go_wp2
   go_quiet (fail)
   go_wp2
   go_ret
   exact ⟨rfl, below_drewN (by go_grown) _⟩
 ·have h2a : (pl == 0) = false := by simpa using h2
  rw [show idleB m ⟨nm, kd, wd, pl, fo, ri, fi, ne⟩ = false by unfold idleB; simp [h1, h1b, h2]]
  go_enter Tryz.func146, Tryz.ntmps146
  go_wp2
  go_quiet (fail)
  go_wp2
  go_ret
  exact ⟨rfl, below_drewN (by go_grown) _⟩
end Go.Proofs.YtbnjejenejoibaaGreatDoor
namespace Go.Proofs.YtbnjejenejoibaaGreatDoor
open Go.RowKit Limb Work
set_option linter.unusedVariables false
set_option linter.unusedSimpArgs false
end Go.Proofs.YtbnjejenejoibaaGreatDoor
namespace Go.Proofs.YtbnjejenejoibaaGreatDoor
open Go.RowKit Limb Nmb
set_option linter.unusedVariables false
set_option linter.unusedSimpArgs false
end Go.Proofs.YtbnjejenejoibaaGreatDoor
namespace Go.Proofs.YtbnjejenejoibaaGreatDoor
open Go.RowKit Limb Work
set_option linter.unusedVariables false
set_option linter.unusedSimpArgs false
end Go.Proofs.YtbnjejenejoibaaGreatDoor
namespace Go.Proofs.YtbnjejenejoibaaGreatDoor
open Go.RowKit Limb
set_option linter.unusedVariables false
set_option linter.unusedSimpArgs false
end Go.Proofs.YtbnjejenejoibaaGreatDoor
