
/- The walk of the law AmountDaysComeBack. -/
import Derived.Test.YtegobkaldedhhaaGreatDoorM3
import Derived.Test.YtegobkaldedhhaaGreatDoorA7
namespace Go.Proofs.YtegobkaldedhhaaGreatDoor
open Go.RowKit Limb Work Nmb
set_option linter.unusedVariables false
set_option linter.unusedSimpArgs false

/-! ### What is written is read -/
theorem dv_zeros (l : List UInt8) : ∀ k, dvF (List.replicate k 48 ++ l) 0 = dvF l 0
  | 0 => rfl
  | k + 1 => by
    rw [List.replicate_succ, List.cons_append, dvF_cons]
    exact dv_zeros l k
theorem dv_dec : ∀ (n : Nat), dv (Lib.decDigits n) = n ∧ ∀ c ∈ Lib.decDigits n, 48 ≤ c.toNat ∧ c.toNat ≤ 57 := by
  intro n
  induction n using Nat.strongRecOn with
  | _ n ih =>
    rw [Lib.decDigits]
    by_cases h : n < 10
    · rw [dif_pos h]
      have e := ofNat_toNat (n := 48 + n) (by omega)
      refine ⟨?_, fun c hc => ?_⟩
      · show 10 * 0 + ((UInt8.ofNat (48 + n)).toNat - 48) = n
        omega
      · obtain rfl := List.mem_singleton.1 hc
        omega
    · rw [dif_neg h]
      obtain ⟨h1, h2⟩ := ih (n / 10) (by omega)
      have e := ofNat_toNat (n := 48 + n % 10) (by omega)
      refine ⟨?_, fun c hc => ?_⟩
      · unfold dv at h1 ⊢
        rw [dvF_append, h1]
        show 10 * (n / 10) + ((UInt8.ofNat (48 + n % 10)).toNat - 48) = n
        omega
      · rw [List.mem_append] at hc
        rcases hc with hc | hc
        · exact h2 c hc
        · obtain rfl := List.mem_singleton.1 hc
          omega
theorem pad_read {n k : Nat} (hk : 1 ≤ k) (h : n < 10 ^ k) : (padN n k).length = k ∧ digs (padN n k) = true ∧ dv (padN n k) = n := by
  have hl := padN_len hk h
  refine ⟨hl, mem_digs (by omega) (fun c hc => ?_), ?_⟩
  · unfold padN at hc
    rw [List.mem_append] at hc
    rcases hc with hc | hc
    · obtain rfl := (List.mem_replicate.1 hc).2
      decide
    · exact (dv_dec n).2 c hc
  · unfold padN dv
    rw [dv_zeros]
    exact (dv_dec n).1
theorem pads_list (n : Int) (k : Nat) : (padS n k).data.toList = padN n.toNat k := rfl
theorem prt_join {A B C : List UInt8} {a b c : Nat} (hc : 0 < c) (la : A.length = a) (lb : B.length = b) (lc : C.length = c) (h1 : digs A = true) (h2 : digs B = true) (h3 : digs C = true) : prt [a, b, c] (A ++ B ++ C) = some [(dv A : Int), (dv B : Int), (dv C : Int)] := by
  subst la; subst lb; subst lc
  have e1 : (A ++ B ++ C).take A.length = A := by rw [List.append_assoc, List.take_left]
  have e2 : (A ++ B ++ C).drop A.length = B ++ C := by rw [List.append_assoc, List.drop_left]
  have e3 : (A ++ B ++ C).drop (A.length + B.length) = C := by rw [show A.length + B.length = (A ++ B).length by simp, List.drop_left]
  rw [prt3 hc, e1, e2, e3, List.take_left, if_pos ⟨by simp; omega, h1, h2, h3⟩]
theorem data3 (a b c : ByteArray) : (a ++ b ++ c).data.toList = a.data.toList ++ b.data.toList ++ c.data.toList := by
  rw [ByteArray.data_append, ByteArray.data_append, Array.toList_append, Array.toList_append]
theorem day_back {form pv day y m d z zm zd : Int} (hform : 1 ≤ form ∧ form ≤ 5) (hd : 1 ≤ day ∧ day ≤ 3652059) (hD : DateIs day y m d) (hZ : DateIs (thu day) z zm zd) (hp : 1 ≤ pv ∧ pv ≤ 9900) (h2 : form = 2 → pv ≤ y ∧ y ≤ pv + 99) :
    readO form pv (dtS form day y m d z).data.toList = some day := by
  obtain ⟨⟨y1, y2⟩, ⟨m1, m2⟩, ⟨d1, d2⟩, -, -, -⟩ := hD.facts
  obtain ⟨⟨z1, z2⟩, -, -, -, b1, b2⟩ := hZ.facts
  have hw := wk_bd b1 b2
  obtain ⟨ly, gy, vy⟩ := pad_read (n := y.toNat) (k := 4) (by decide) (by omega)
  obtain ⟨lm, gm, vm⟩ := pad_read (n := m.toNat) (k := 2) (by decide) (by omega)
  obtain ⟨ld, gd, vd⟩ := pad_read (n := d.toNat) (k := 2) (by decide) (by omega)
  have hday : dayO y m d = some day := by
    unfold dayO
    rw [if_pos hD.1, hD.2]
  have cy : ((y.toNat : Nat) : Int) = y := by omega
  have cm : ((m.toNat : Nat) : Int) = m := by omega
  have cd : ((d.toNat : Nat) : Int) = d := by omega
  rcases (show form = 1 ∨ form = 2 ∨ form = 3 ∨ form = 4 ∨ form = 5 by omega) with rfl | rfl | rfl | rfl | rfl
  · rw [show dtS 1 day y m d z = padS y 4 ++ padS m 2 ++ padS d 2 from rfl, data3, pads_list, pads_list, pads_list, readO_1, prt_join (by decide) ly lm ld gy gm gd, vy, vm, vd, cy, cm, cd]
    exact hday
  · obtain ⟨ls, gs, vs⟩ := pad_read (n := (y % 100).toNat) (k := 2) (by decide) (by omega)
    have cs : (((y % 100).toNat : Nat) : Int) = y % 100 := by omega
    rw [show dtS 2 day y m d z = padS (y % 100) 2 ++ padS m 2 ++ padS d 2 from rfl, data3, pads_list, pads_list, pads_list, readO_2, prt_join (by decide) ls lm ld gs gm gd, vs, vm, vd, cs, cm, cd]
    show (if 0 ≤ y % 100 then dayO (pv + (y % 100 - pv) % 100) m d else none) = some day
    have := h2 rfl
    rw [if_pos (by omega), show pv + (y % 100 - pv) % 100 = y by omega]
    exact hday
  · rw [show dtS 3 day y m d z = padS d 2 ++ padS m 2 ++ padS y 4 from rfl, data3, pads_list, pads_list, pads_list, readO_3, prt_join (by decide) ld lm ly gd gm gy, vy, vm, vd, cy, cm, cd]
    exact hday
  · have e : (dtS 4 day y m d z).data.toList = padN y.toNat 4 ++ [45] ++ padN m.toNat 2 ++ [45] ++ padN d.toNat 2 := by
      rw [show dtS 4 day y m d z = padS y 4 ++ ⟨#[45]⟩ ++ padS m 2 ++ ⟨#[45]⟩ ++ padS d 2 from rfl]
      rw [ByteArray.data_append, ByteArray.data_append, ByteArray.data_append, ByteArray.data_append, Array.toList_append, Array.toList_append, Array.toList_append, Array.toList_append, pads_list, pads_list, pads_list]
    have hst : strike (dtS 4 day y m d z).data.toList 45 = padN y.toNat 4 ++ padN m.toNat 2 ++ padN d.toNat 2 := by
      rw [e, strike_app, strike_app, strike_app, strike_app, strike_digs gy, strike_digs gm, strike_digs gd, show strike [45] 45 = [] from rfl]
      simp
    rw [point_some (x := y) (y := m) (z := d) (by rw [hst, prt_join (by decide) ly lm ld gy gm gd, vy, vm, vd, cy, cm, cd]) (by rw [hst, again_of ly lm, e])]
    exact hday
  · obtain ⟨lz, gz, vz⟩ := pad_read (n := z.toNat) (k := 4) (by decide) (by omega)
    obtain ⟨lw, gw, vw⟩ := pad_read (n := (wk day z).toNat) (k := 2) (by decide) (by omega)
    obtain ⟨le, ge, ve⟩ := pad_read (n := ((day - 1) % 7 + 1).toNat) (k := 1) (by decide) (by omega)
    have cz : ((z.toNat : Nat) : Int) = z := by omega
    have cw : (((wk day z).toNat : Nat) : Int) = wk day z := by omega
    have ce : ((((day - 1) % 7 + 1).toNat : Nat) : Int) = (day - 1) % 7 + 1 := by omega
    rw [show dtS 5 day y m d z = padS z 4 ++ padS (wk day z) 2 ++ padS ((day - 1) % 7 + 1) 1 from rfl, data3, pads_list, pads_list, pads_list, readO_5, prt_join (by decide) lz lw le gz gw ge, vz, vw, ve, cz, cw, ce]
    show weekO z (wk day z) ((day - 1) % 7 + 1) = some day
    rw [weekO_yes (weekB_of ⟨z1, z2⟩ hd b1 b2 rfl rfl), ← week_day b1 rfl rfl]

set_option maxHeartbeats 1000000 in
set_option maxRecDepth 100000 in
theorem law_back_no (day form pv : Int) (w : World) (h : dayB day = false) :
    Calls Tryz.prog 6 #[.int .i64 day, .int .i64 form, .int .i64 pv] w fun e w' => e = .returned (.bool true) ∧ Below w.heap.size w w' := by
  have HA := Lib.hid (fun w => DateOf_no day w h)
  clear h
  go_enter Tryz.func6, Tryz.ntmps6
  go_wp2_with fail
  refine (HA.out _).mono ?_
  rintro e w1 ⟨rfl, b1⟩
  go_wp2_with fail
  refine (awake_c _).mono ?_
  rintro e w9 ⟨rfl, c9⟩
  have b9 := below_then c9 b1 b1.size
  go_wp2
  go_ret
  exact ⟨rfl, b9⟩
set_option maxHeartbeats 2000000 in
set_option maxRecDepth 100000 in
theorem law_back_yes (day form pv : Int) (w : World) (h : dayB day = true) (ht : Tab w) :
    Calls Tryz.prog 6 #[.int .i64 day, .int .i64 form, .int .i64 pv] w fun e w' => e = .returned (.bool true) ∧ Below w.heap.size w w' := by
  have hd := dayB_yes h
  obtain ⟨y, m, d, hD⟩ := date_ex hd.1 hd.2
  obtain ⟨z, zm, zd, hZ⟩ := thu_ex hd.1 hd.2
  obtain ⟨⟨y1, y2⟩, ⟨m1, m2⟩, ⟨d1, d2⟩, -, -, -⟩ := hD.facts
  have HA := Lib.hid (fun w => DateOf_yes day y m d w hd.1 hd.2 hD)
  have HO := Lib.hid (fun w => DayOf_c y m d w ⟨by omega, by omega⟩)
  rw [dayR_yes hD.1, hD.1, if_pos rfl, hD.2] at HO
  obtain ⟨k1, k2⟩ := hd
  cases hf : formB form with
  | false =>
    have HT := Lib.hid (fun w (_ : Tab w) => DayText_kind day form w hf)
    clear hD hZ h hf
    go_enter Tryz.func6, Tryz.ntmps6
    go_wp2_with fail
    refine (HA.out _).mono ?_
    rintro e w1 ⟨rfl, b1⟩
    go_wp2_with fail
    refine (HO.out _).mono ?_
    rintro e w2 ⟨rfl, c2⟩
    have b2 := below_then c2 b1 b1.size
    go_wp2_with fail
    refine (awake_c _).mono ?_
    rintro e w3 ⟨rfl, c3⟩
    have b3 := below_then c3 b2 b2.size
    go_wp2_with fail
    refine (HT.out _ (ht.below b3)).mono ?_
    rintro e w4 ⟨rfl, c4⟩
    have b4 := below_then c4 b3 b3.size
    go_wp2
    go_ret
    exact ⟨rfl, b4⟩
  | true =>
  have hform := of_decide_eq_true hf
  have HT := Lib.hid (fun w ht => DayText_ok day form y m d z zm zd w hf k1 k2 hD hZ ht)
  have hsz : (dtS form day y m d z).size ≤ 140737488355328 := by
    have s4 : (padS y 4).size = 4 := padS_size (by omega) (by omega)
    have s5 : (padS m 2).size = 2 := padS_size (by omega) (by omega)
    have s6 : (padS d 2).size = 2 := padS_size (by omega) (by omega)
    have s7 : (padS (y % 100) 2).size = 2 := padS_size (by omega) (by omega)
    obtain ⟨⟨z1, z2⟩, -, -, -, b1, b2⟩ := hZ.facts
    have hw := wk_bd b1 b2
    have s8 : (padS z 4).size = 4 := padS_size (by omega) (by omega)
    have s9 : (padS (wk day z) 2).size = 2 := padS_size (by omega) (by omega)
    have s10 : (padS ((day - 1) % 7 + 1) 1).size = 1 := padS_size (by omega) (by omega)
    have s11 : (⟨#[45]⟩ : ByteArray).size = 1 := rfl
    unfold dtS
    repeat' split
    all_goals (simp only [ByteArray.size_append, s4, s5, s6, s7, s8, s9, s10, s11]; omega)
  have HBK := Lib.hid (fun hp h2 => day_back (pv := pv) hform ⟨k1, k2⟩ hD hZ hp h2)
  obtain ⟨s, hs⟩ : ∃ s, dtS form day y m d z = s := ⟨_, rfl⟩
  rw [hs] at HT hsz HBK
  have HR := Lib.hid (fun w => ReadDay_c s form pv w hsz)
  have HF := Lib.hid hf
  clear hD hZ h hf hs hsz
  by_cases p1 : pv < 1
  · skip
    go_enter Tryz.func6, Tryz.ntmps6
    go_wp2_with fail
    refine (HA.out _).mono ?_
    rintro e w1 ⟨rfl, b1⟩
    go_wp2_with fail
    refine (HO.out _).mono ?_
    rintro e w2 ⟨rfl, c2⟩
    have b2 := below_then c2 b1 b1.size
    go_wp2_with fail
    refine (awake_c _).mono ?_
    rintro e w3 ⟨rfl, c3⟩
    have b3 := below_then c3 b2 b2.size
    go_wp2_with fail
    refine (HT.out _ (ht.below b3)).mono ?_
    rintro e w4 ⟨rfl, c4⟩
    have b4 := below_then c4 b3 b3.size
    go_wp2
    go_ret
    exact ⟨rfl, b4⟩
  by_cases p2 : 9900 < pv
  · skip
    go_enter Tryz.func6, Tryz.ntmps6
    go_wp2_with fail
    refine (HA.out _).mono ?_
    rintro e w1 ⟨rfl, b1⟩
    go_wp2_with fail
    refine (HO.out _).mono ?_
    rintro e w2 ⟨rfl, c2⟩
    have b2 := below_then c2 b1 b1.size
    go_wp2_with fail
    refine (awake_c _).mono ?_
    rintro e w3 ⟨rfl, c3⟩
    have b3 := below_then c3 b2 b2.size
    go_wp2_with fail
    refine (HT.out _ (ht.below b3)).mono ?_
    rintro e w4 ⟨rfl, c4⟩
    have b4 := below_then c4 b3 b3.size
    go_wp2
    go_ret
    exact ⟨rfl, b4⟩
  by_cases h2 : form = 2 ∧ (y < pv ∨ pv + 99 < y)
  · obtain ⟨rfl, h3⟩ := h2
    by_cases h4 : y < pv
    · skip
      go_enter Tryz.func6, Tryz.ntmps6
      go_wp2_with fail
      refine (HA.out _).mono ?_
      rintro e w1 ⟨rfl, b1⟩
      go_wp2_with fail
      refine (HO.out _).mono ?_
      rintro e w2 ⟨rfl, c2⟩
      have b2 := below_then c2 b1 b1.size
      go_wp2_with fail
      refine (awake_c _).mono ?_
      rintro e w3 ⟨rfl, c3⟩
      have b3 := below_then c3 b2 b2.size
      go_wp2_with fail
      refine (HT.out _ (ht.below b3)).mono ?_
      rintro e w4 ⟨rfl, c4⟩
      have b4 := below_then c4 b3 b3.size
      go_wp2
      go_ret
      exact ⟨rfl, b4⟩
    · have h5 : pv + 99 < y := by omega
      clear h3
      go_enter Tryz.func6, Tryz.ntmps6
      go_wp2_with fail
      refine (HA.out _).mono ?_
      rintro e w1 ⟨rfl, b1⟩
      go_wp2_with fail
      refine (HO.out _).mono ?_
      rintro e w2 ⟨rfl, c2⟩
      have b2 := below_then c2 b1 b1.size
      go_wp2_with fail
      refine (awake_c _).mono ?_
      rintro e w3 ⟨rfl, c3⟩
      have b3 := below_then c3 b2 b2.size
      go_wp2_with fail
      refine (HT.out _ (ht.below b3)).mono ?_
      rintro e w4 ⟨rfl, c4⟩
      have b4 := below_then c4 b3 b3.size
      go_wp2
      go_ret
      exact ⟨rfl, b4⟩
  have hro := HBK.out ⟨by omega, by omega⟩ (fun h => by omega)
  have HR2 := Lib.hid (fun w => HR.out w)
  rw [show rdN form pv s.data.toList = day by unfold rdN; rw [HF.out, if_pos ⟨rfl, by omega, by omega⟩, hro]; rfl, show rdF form pv s.data.toList = 0 by unfold rdF; rw [HF.out, if_neg (by simp), if_neg (fun h => h ⟨by omega, by omega⟩), hro]; rfl] at HR2
  clear hro
  by_cases h6 : form = 2
  · subst h6
    have h7 : ¬ y < pv := by omega
    have h8 : ¬ pv + 99 < y := by omega
    clear h2
    go_enter Tryz.func6, Tryz.ntmps6
    go_wp2_with fail
    refine (HA.out _).mono ?_
    rintro e w1 ⟨rfl, b1⟩
    go_wp2_with fail
    refine (HO.out _).mono ?_
    rintro e w2 ⟨rfl, c2⟩
    have b2 := below_then c2 b1 b1.size
    go_wp2_with fail
    refine (awake_c _).mono ?_
    rintro e w3 ⟨rfl, c3⟩
    have b3 := below_then c3 b2 b2.size
    go_wp2_with fail
    refine (HT.out _ (ht.below b3)).mono ?_
    rintro e w4 ⟨rfl, c4⟩
    have b4 := below_then c4 b3 b3.size
    go_wp2_with fail
    refine (HR2.out _).mono ?_
    rintro e w5 ⟨rfl, c5⟩
    have b5 := below_then c5 b4 b4.size
    go_wp2
    go_ret
    exact ⟨rfl, b5⟩
  · have e2 : (form == 2) = false := beq_eq_false_iff_ne.2 h6
    clear h2 h6
    go_enter Tryz.func6, Tryz.ntmps6
    go_wp2_with fail
    refine (HA.out _).mono ?_
    rintro e w1 ⟨rfl, b1⟩
    go_wp2_with fail
    refine (HO.out _).mono ?_
    rintro e w2 ⟨rfl, c2⟩
    have b2 := below_then c2 b1 b1.size
    go_wp2_with fail
    refine (awake_c _).mono ?_
    rintro e w3 ⟨rfl, c3⟩
    have b3 := below_then c3 b2 b2.size
    go_wp2_with fail
    refine (HT.out _ (ht.below b3)).mono ?_
    rintro e w4 ⟨rfl, c4⟩
    have b4 := below_then c4 b3 b3.size
    go_wp2_with fail
    refine (HR2.out _).mono ?_
    rintro e w5 ⟨rfl, c5⟩
    have b5 := below_then c5 b4 b4.size
    go_wp2
    go_ret
    exact ⟨rfl, b5⟩
theorem law_back (day form pv : Int) (w : World) (ht : Tab w) :
    Calls Tryz.prog 6 #[.int .i64 day, .int .i64 form, .int .i64 pv] w fun e w' => e = .returned (.bool true) ∧ Below w.heap.size w w' := by
  cases h : dayB day with
  | false => exact law_back_no day form pv w h
  | true => exact law_back_yes day form pv w h ht
end Go.Proofs.YtegobkaldedhhaaGreatDoor
