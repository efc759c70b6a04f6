
/- The walks of the law's own words: another digit, neighbours exchanged. -/
import Derived.Test.YtegobkaldedhhaaDoorK8
import Derived.Test.YtegobkaldedhhaaDoorA8
import Derived.Deep.RegionHeld3
namespace Go.Proofs.YtegobkaldedhhaaDoor
open Go.RowKit Limb Nmb Work
set_option linter.unusedVariables false
set_option linter.unusedSimpArgs false

/-! ### Plain -/
theorem byA_set {l : List UInt8} {j : Nat} {v : UInt8} (hj : j < l.length) (i : Nat) : byA (l.set j v) i = if i = j then (v.toNat : Int) else byA l i := by
  unfold byA
  rw [List.getD_eq_getElem?_getD, List.getD_eq_getElem?_getD]
  by_cases h : i = j
  · subst h; rw [if_pos rfl, List.getElem?_set_self hj]; rfl
  · rw [if_neg h, List.getElem?_set_ne (by omega)]
theorem byA_ne {s t : ByteArray} {j : Nat} (h : byA t.data.toList j ≠ byA s.data.toList j) : t ≠ s := fun e => h (by rw [e])
def ChgRel (s t : ByteArray) : Prop := t = s ∨ (t ≠ s ∧ t.size = s.size ∧ ∀ kind, numB kind s.data.toList = true → numB kind t.data.toList = false)
theorem chg_rel {s : ByteArray} {j v : Nat} (hj : j < s.size) (hd : 48 ≤ byA s.data.toList j ∧ byA s.data.toList j ≤ 57) (hv : 48 ≤ v ∧ v ≤ 57) (hne : (v : Int) ≠ byA s.data.toList j) : ChgRel s ⟨(s.data.toList.set j (UInt8.ofNat v)).toArray⟩ := by
  have hl : j < s.data.toList.length := by rw [szL]; exact hj
  have hn := ofNat_toNat (n := v) (by omega)
  have e0 := byA_set (v := UInt8.ofNat v) hl j
  rw [if_pos rfl, hn] at e0
  refine .inr ⟨byA_ne (j := j) (by show byA (s.data.toList.set j (UInt8.ofNat v)) j ≠ _; rw [e0]; exact hne), by rw [← szL, ← szL]; simp, fun kind hk => ?_⟩
  show numB kind (s.data.toList.set j (UInt8.ofNat v)) = false
  refine num_digit hl (by simp) (fun i hi => by rw [byA_set hl, if_neg hi]) ?_ ?_ ?_ hk
  · unfold dgt; omega
  · unfold dgt; omega
  · unfold dgt; omega
def ExgRel (s t : ByteArray) : Prop := t = s ∨ (t ≠ s ∧ t.size = s.size ∧ ∀ kind, kind ≠ 4 → kind ≠ 5 → numB kind s.data.toList = true → numB kind t.data.toList = false)
theorem exg_rel {s : ByteArray} {j : Nat} {u v : UInt8} (hj : j + 1 < s.size) (hu : (u.toNat : Int) = byA s.data.toList j) (hv : (v.toNat : Int) = byA s.data.toList (j + 1))
    (hne : byA s.data.toList j - byA s.data.toList (j + 1) ≠ 0 ∧ byA s.data.toList j - byA s.data.toList (j + 1) ≠ 5 ∧ byA s.data.toList j - byA s.data.toList (j + 1) ≠ -5) : ExgRel s ⟨((s.data.toList.set j v).set (j + 1) u).toArray⟩ := by
  have hl : j + 1 < s.data.toList.length := by rw [szL]; exact hj
  have hl2 : j + 1 < (s.data.toList.set j v).length := by simpa using hl
  have at_ : ∀ i, byA ((s.data.toList.set j v).set (j + 1) u) i = if i = j + 1 then byA s.data.toList j else if i = j then byA s.data.toList (j + 1) else byA s.data.toList i := by
    intro i
    rw [byA_set hl2, byA_set (by omega), hu, hv]
  refine .inr ⟨byA_ne (j := j) ?_, by rw [← szL, ← szL]; simp, fun kind h4 h5 hk => ?_⟩
  · show byA ((s.data.toList.set j v).set (j + 1) u) j ≠ _
    rw [at_, if_neg (by omega), if_pos rfl]; omega
  · show numB kind ((s.data.toList.set j v).set (j + 1) u) = false
    refine num_swap (j := j) ⟨h4, h5⟩ hl (by simp) (fun i h1 h2 => ?_) ?_ ?_ hne hk
    · rw [at_, if_neg h2, if_neg h1]
    · rw [at_, if_neg (by omega), if_pos rfl]
    · rw [at_, if_pos rfl]
def RetRel (R : ByteArray → ByteArray → Prop) (s : ByteArray) (w : World) (e : Ending) (w' : World) : Prop := ∃ t, e = .returned (.string t) ∧ R s t ∧ Below w.heap.size w w'

/-- The row of bytes, its capacity and the world behind the conversion. -/
theorem row_facts2 (w : World) (t : ByteArray) (cap : Nat) (W : World) (h : (w.alloc (.cells (bytesRow t cap) 5 ((bytesRow t cap).size, (bytesRow t cap).size + 1))) = W) :
    (∀ k, (hk : k < t.size) → W.cell? ⟨w.heap.size, k, none⟩ = some (.int .u8 (t[k].toNat : Int))) ∧ (∀ k, k < t.size → W.frozen? ⟨w.heap.size, k, none⟩ = false) ∧ Below w.heap.size w W := by
  subst h
  have hrow := fun k hk => bytesRow_at t cap k hk
  refine ⟨fun k hk => ?_, fun k hk => ?_, by go_grown⟩
  · have := World.cell?_alloc_mark w (bytesRow t cap) 5 ((bytesRow t cap).size, (bytesRow t cap).size + 1) k
    exact this.trans (bytesRow_at t cap k hk)
  · have hs : k < (bytesRow t cap).size := by
      have := hrow k hk
      rcases Nat.lt_or_ge k (bytesRow t cap).size with h | h
      · exact h
      · rw [Array.getElem?_eq_none h] at this; cases this
    have := heap_new w (.cells (bytesRow t cap) 5 ((bytesRow t cap).size, (bytesRow t cap).size + 1)) rfl
    have e : ∀ (W : World) (g : Nat) (cs : Array Value) (t : TypeId) (lo hi : Nat), W.heap[g]? = some (.cells cs t (lo, hi)) → W.frozen? ⟨g, k, none⟩ = (decide (lo ≤ k) && decide (k < hi)) := fun W g cs t lo hi h => by unfold World.frozen?; rw [h]
    rw [e _ _ _ _ _ _ this, decide_eq_false (by omega)]; rfl

/-- A row of bytes, as a list; one is written. -/
def RowL (W : World) (g : Nat) (l : List UInt8) : Prop := ∀ k, (hk : k < l.length) → W.cell? ⟨g, k, none⟩ = some (.int .u8 (l[k].toNat : Int))
theorem RowL.at_ {W : World} {g : Nat} {l : List UInt8} (h : RowL W g l) : ∀ k, (hk : k < l.length) → W.cell? ((⟨g, 0, none⟩ : Addr).add k) = some (.int .u8 (l[k].toNat : Int)) := by
  intro k hk
  have h1 := h k hk
  by_cases e : k = 0
  · subst e; exact h1
  · simp [Addr.add, e]; exact h1
theorem RowL.set {W : World} {g j : Nat} {l : List UInt8} (h : RowL W g l) (hj : j < l.length) {u : UInt8} {x : Int} (hx : x = (u.toNat : Int)) : RowL (W.setCell ⟨g, j, none⟩ (.int .u8 x)) g (l.set j u) := by
  subst hx
  intro k hk
  by_cases e : k = j
  · subst e
    obtain ⟨v, hv⟩ : ∃ v, W.cell? ⟨g, k, none⟩ = some v := ⟨_, h k hj⟩
    rw [World.cell?_setCell_same _ _ _ hv]
    simp
  · rw [World.cell?_setCell_other _ _ _ _ (by intro e2; injection e2; omega), h k (by simpa using hk)]
    rw [List.getElem_set_ne (by omega)]
theorem RowL.drew {W : World} {g : Nat} {l : List UInt8} (h : RowL W g l) : RowL W.drew g l := h
set_option maxHeartbeats 1000000 in
set_option maxRecDepth 100000 in
theorem changed_c (s : ByteArray) (place y : Int) (w : World) (h0 : 0 < s.size) (hs : s.size ≤ 1000) (hp : -9223372036854775808 ≤ place ∧ place ≤ 9223372036854775807) (hy : -9223372036854775808 ≤ y ∧ y ≤ 9223372036854775807) :
    Calls Tryd.prog 35 #[.string s, .int .i64 place, .int .i64 y] w (RetRel ChgRel s w) := by
  have HB := Lib.hid (fun w => below_c place (s.size : Int) w hp (by omega) (by omega))
  have h1 : 0 ≤ place % (s.size : Int) := Int.emod_nonneg _ (by omega)
  have h2 : place % (s.size : Int) < (s.size : Int) := Int.emod_lt_of_pos _ (by omega)
  obtain ⟨j, hj⟩ : ∃ j : Nat, place % (s.size : Int) = (j : Int) := ⟨(place % (s.size : Int)).toNat, by omega⟩
  rw [hj] at HB h1 h2
  have hjs : j < s.size := by omega
  have hby := byS s j hjs
  by_cases hd : 48 ≤ (s[j].toNat : Int) ∧ (s[j].toNat : Int) ≤ 57
  case neg =>
    have hd' : (s[j].toNat : Int) < 48 ∨ 57 < (s[j].toNat : Int) := by omega
    clear hj hd hby
    rcases hd' with hd | hd
    · go_enter Tryd.func35, Tryd.ntmps35
      go_wp2_with fail
      refine (HB.out _).mono ?_
      rintro e w1 ⟨rfl, rfl⟩
      go_wp2
      go_ret
      exact ⟨s, rfl, .inl rfl, Below.refl _ _⟩
    · have hd2 : ¬ (s[j].toNat : Int) < 48 := by omega
      go_enter Tryd.func35, Tryd.ntmps35
      go_wp2_with fail
      refine (HB.out _).mono ?_
      rintro e w1 ⟨rfl, rfl⟩
      go_wp2
      go_ret
      exact ⟨s, rfl, .inl rfl, Below.refl _ _⟩
  obtain ⟨c, hc⟩ : ∃ c, (s[j].toNat : Int) = c := ⟨_, rfl⟩
  have HC := Lib.hid hc
  have HB9 := Lib.hid (fun w => below_c y 9 w hy (by decide) (by decide))
  have g1 : 0 ≤ y % 9 := Int.emod_nonneg _ (by decide)
  have g2 : y % 9 < 9 := Int.emod_lt_of_pos _ (by decide)
  obtain ⟨z, hz⟩ : ∃ z, y % 9 = z := ⟨_, rfl⟩
  rw [hz] at HB9 g1 g2
  obtain ⟨hd1, hd2⟩ := hd
  rw [hc] at hby hd1 hd2
  obtain ⟨v, hv⟩ : ∃ v : Nat, 48 + (c - 48 + 1 + z) % 10 = (v : Int) := ⟨(48 + (c - 48 + 1 + z) % 10).toNat, by omega⟩
  have HR := Lib.hid (chg_rel (s := s) (j := j) (v := v) hjs (by rw [← hby]; exact ⟨hd1, hd2⟩) (by omega) (by rw [← hby]; omega))
  have HV := Lib.hid hv
  have hcv := run_bytes_of_string (P := Tryd.prog) w 9 114 5 s Tryd.underlying9 Tryd.underlying114 Tryd.underlying5
  clear hz hj hby hv
  go_enter Tryd.func35, Tryd.ntmps35
  go_wp2_with fail
  refine (HB.out _).mono ?_
  rintro e w1 ⟨rfl, rfl⟩
  go_wp2_with fail
  generalize grownCap w s.size 0 5 = cap
  generalize hW : w.alloc (.cells (bytesRow s cap) 5 ((bytesRow s cap).size, (bytesRow s cap).size + 1)) = W
  obtain ⟨hcl, hfz, hbl⟩ := row_facts2 w s cap W hW
  have q1 := hcl j hjs
  have q2 := hfz j hjs
  have HCL := Lib.hid hcl
  have HBL := Lib.hid hbl
  rw [hc] at q1
  clear hcl hfz hbl hW hcv
  have w1 : IntKind.u8.wrap (c - 48) = c - 48 := IntWalk.u8_in _ (by omega)
  have w2 : IntKind.i64.wrap (c - 48) = c - 48 := IntWalk.i64_in _ (by omega)
  have w3 : IntKind.i64.wrap (c - 48 + 1) = c - 48 + 1 := IntWalk.i64_in _ (by omega)
  have w4 : IntKind.i64.wrap (c - 48 + 1 + z) = c - 48 + 1 + z := IntWalk.i64_in _ (by omega)
  have w5 : (c - 48 + 1 + z).tmod 10 = (c - 48 + 1 + z) % 10 := Int.tmod_eq_emod_of_nonneg (by omega)
  have w6 : IntKind.i64.wrap (48 + (c - 48 + 1 + z) % 10) = 48 + (c - 48 + 1 + z) % 10 := IntWalk.i64_in _ (by omega)
  have w7 : IntKind.u8.wrap (48 + (c - 48 + 1 + z) % 10) = 48 + (c - 48 + 1 + z) % 10 := IntWalk.u8_in _ (by omega)
  go_region_held3 (fun _ => True) (exact trivial) (first | (go_at_call 95; (with_reducible refine (HB9.out _).mono ?_); rintro e w2 ⟨rfl, rfl⟩))
  all_goals (
    clear w1 w2 w3 w4 w5 w6 w7
    rw [HV.out]
    have hv9 : v < 256 := by have := HV.out; omega
    have hrow : RowL W w.heap.size s.data.toList := fun k hk => HCL.out k (by simpa using hk)
    have hrow2 := (hrow.set (j := j) (u := UInt8.ofNat v) (x := (v : Int)) (by rw [szL]; exact hjs) (ofNat_toNat hv9).symm).drew.drew
    have hcv2 := run_convert_bytes_back (P := Tryd.prog) ((W.setCell ⟨w.heap.size, j, none⟩ (.int .u8 (v : Int))).drew.drew) 114 9 5 ⟨w.heap.size, 0, none⟩ cap (s.data.toList.set j (UInt8.ofNat v)) Tryd.underlying114 Tryd.underlying5 Tryd.underlying9 hrow2.at_
    rw [show (s.data.toList.set j (UInt8.ofNat v)).length = s.size by simp] at hcv2
    have hb := ((HBL.out.setCell (p := ⟨w.heap.size, j, none⟩) (Nat.le_refl _) (.int .u8 (v : Int))).drew).drew
    have HB2 := Lib.hid hb
    clear hrow hrow2 hb q1 q2 hc
    go_wp2
    go_ret
    exact ⟨_, rfl, HR.out, HB2.out⟩)
set_option maxHeartbeats 1000000 in
set_option maxRecDepth 100000 in
theorem exchanged_c (s : ByteArray) (place : Int) (w : World) (h0 : 2 ≤ s.size) (hs : s.size ≤ 1000) (hp : -9223372036854775808 ≤ place ∧ place ≤ 9223372036854775807) :
    Calls Tryd.prog 37 #[.string s, .int .i64 place] w (RetRel ExgRel s w) := by
  have HB := Lib.hid (fun w => below_c place ((s.size : Int) - 1) w hp (by omega) (by omega))
  have h1 : 0 ≤ place % ((s.size : Int) - 1) := Int.emod_nonneg _ (by omega)
  have h2 : place % ((s.size : Int) - 1) < (s.size : Int) - 1 := Int.emod_lt_of_pos _ (by omega)
  obtain ⟨j, hj⟩ : ∃ j : Nat, place % ((s.size : Int) - 1) = (j : Int) := ⟨(place % ((s.size : Int) - 1)).toNat, by omega⟩
  rw [hj] at HB h1 h2
  have hjs : j < s.size := by omega
  have hjs2 : j + 1 < s.size := by omega
  have hby := byS s j hjs
  have hby2 := byS s (j + 1) hjs2
  have a0 := (s[j]).toNat_lt
  have a1 := (s[j + 1]).toNat_lt
  obtain ⟨u, hu⟩ : ∃ u, s[j] = u := ⟨_, rfl⟩
  obtain ⟨v, hv⟩ : ∃ v, s[j + 1] = v := ⟨_, rfl⟩
  have b1 : (j : Int) < (s.size : Int) := by omega
  have b2 : (j : Int) + 1 < (s.size : Int) := by omega
  have b3 : ((j : Int) + 1).toNat = j + 1 := by omega
  have b4 : IntKind.i64.wrap ((j : Int) + 1) = (j : Int) + 1 := IntWalk.i64_in _ (by omega)
  rw [hu] at hby a0
  rw [hv] at hby2 a1
  have b5 : IntKind.i64.wrap ((u.toNat : Int) - (v.toNat : Int)) = (u.toNat : Int) - (v.toNat : Int) := IntWalk.i64_in _ (by omega)
  obtain ⟨d, hd⟩ : ∃ d, (u.toNat : Int) - (v.toNat : Int) = d := ⟨_, rfl⟩
  by_cases hz : d = 0 ∨ d = 5 ∨ d = -5
  · have HD := Lib.hid hd
    rw [hd] at b5
    rcases hz with rfl | rfl | rfl
    all_goals (
      clear hj hby hby2 hd
      go_enter Tryd.func37, Tryd.ntmps37
      go_wp2_with fail
      refine (HB.out _).mono ?_
      rintro e w1 ⟨rfl, rfl⟩
      go_wp2_with fail
      go_quiet (fail)
      rw [HD.out]
      go_wp2
      go_ret
      exact ⟨s, rfl, .inl rfl, below_drewN (Below.refl _ _) _⟩)
  have e0 : (d == 0) = false := beq_eq_false_iff_ne.2 (fun e => hz (.inl e))
  have e5 : (d == 5) = false := beq_eq_false_iff_ne.2 (fun e => hz (.inr (.inl e)))
  have e6 : (d == -5) = false := beq_eq_false_iff_ne.2 (fun e => hz (.inr (.inr e)))
  have HR := Lib.hid (exg_rel (s := s) (j := j) (u := u) (v := v) hjs2 hby hby2 (by rw [← hby, ← hby2]; omega))
  have HD := Lib.hid hd
  clear hd hby hby2 hz hj
  go_enter Tryd.func37, Tryd.ntmps37
  go_wp2_with fail
  refine (HB.out _).mono ?_
  rintro e w1 ⟨rfl, rfl⟩
  go_wp2_with fail
  go_quiet (fail)
  rw [HD.out]
  generalize hw0 : w.drewN _ = w0
  have hb0 : Below w.heap.size w w0 := by rw [← hw0]; exact below_drewN (Below.refl _ _) _
  have hz0 : w.heap.size = w0.heap.size := by rw [← hw0]; rfl
  have hcv := run_bytes_of_string (P := Tryd.prog) w0 9 114 5 s Tryd.underlying9 Tryd.underlying114 Tryd.underlying5
  clear hw0
  have HB0 := Lib.hid hb0
  have HZ0 := Lib.hid hz0
  clear hb0 hz0
  go_wp2_with fail
  generalize grownCap w0 s.size 0 5 = cap
  generalize hW : w0.alloc (.cells (bytesRow s cap) 5 ((bytesRow s cap).size, (bytesRow s cap).size + 1)) = W
  obtain ⟨hcl, hfz, hbl⟩ := row_facts2 w0 s cap W hW
  have q1 := hcl j hjs
  have q2 := hfz j hjs
  have q3 := hcl (j + 1) hjs2
  have q4 := hfz (j + 1) hjs2
  have HCL := Lib.hid hcl
  have HBL := Lib.hid (below_then hbl HB0.out (Nat.le_of_eq HZ0.out))
  rw [hu] at q1
  rw [hv] at q3
  clear hcl hfz hbl hW hcv
  go_region_held3 (fun _ => True) (exact trivial) (fail)
  all_goals (
    have hrow : RowL W w0.heap.size s.data.toList := fun k hk => HCL.out k (by simpa using hk)
    have hr1 := hrow.set (j := j) (u := v) (x := (v.toNat : Int)) (by rw [szL]; exact hjs) rfl
    have hr2 := (hr1.set (j := j + 1) (u := u) (x := (u.toNat : Int)) (by simpa using hjs2) rfl).drew.drew
    have hcv2 := run_convert_bytes_back (P := Tryd.prog) ((W.setCell ⟨w0.heap.size, j, none⟩ (.int .u8 (v.toNat : Int))).setCell ⟨w0.heap.size, j + 1, none⟩ (.int .u8 (u.toNat : Int))).drew.drew 114 9 5 ⟨w0.heap.size, 0, none⟩ cap ((s.data.toList.set j v).set (j + 1) u) Tryd.underlying114 Tryd.underlying5 Tryd.underlying9 hr2.at_
    rw [show ((s.data.toList.set j v).set (j + 1) u).length = s.size by simp] at hcv2
    have HB2 := Lib.hid (((HBL.out.setCell (p := ⟨w0.heap.size, j, none⟩) (Nat.le_of_eq HZ0.out) (.int .u8 (v.toNat : Int))).setCell (p := ⟨w0.heap.size, j + 1, none⟩) (Nat.le_of_eq HZ0.out) (.int .u8 (u.toNat : Int))).drew.drew)
    clear hrow hr1 hr2 q1 q2 q3 q4 hu hv
    go_wp2
    go_ret
    exact ⟨_, rfl, HR.out, HB2.out⟩)
end Go.Proofs.YtegobkaldedhhaaDoor
