
/- The walks of package amount's days: numbers out of digits, parts, the day of a week. -/
import Derived.Test.YtegobkaldedhhaaGreatDoorM0
import Derived.Test.YtegobkaldedhhaaGreatDoorK4
import Derived.Test.YtegobkaldedhhaaGreatDoorE2
import Derived.Test.YtegobkaldedhhaaGreatDoorShelf2
import Derived.Lib.AtoiErrMem
namespace Go.Proofs.YtegobkaldedhhaaGreatDoor
open Go.RowKit Limb Work Nmb
set_option linter.unusedVariables false
set_option linter.unusedSimpArgs false

theorem atoi_c (s : ByteArray) (w : World) (hs : s.size ≤ 18) (hd : digs s.data.toList = true) :
    Calls Tryz.prog 153 #[.string s] w fun e w' => e = .returned (.tuple #[.int .i64 ((dv s.data.toList : Nat) : Int), .nilIface]) ∧ Below w.heap.size w w' := by
  refine (Tryz.strconv_Atoi s _ hs (atoi_dv hd) w).mono ?_
  rintro e w' ⟨rfl, t, rfl⟩
  exact ⟨rfl, Lib.bytesWorld_below _ _ _⟩

/-! ### Parts -/
def intV (l : List Int) : List Value := l.map (Value.int .i64)
theorem intV_snoc (l : List Int) (x : Int) : intV l ++ [.int .i64 x] = intV (l ++ [x]) := by unfold intV; rw [List.map_append]; rfl
theorem intV_at {l : List Int} {j : Nat} (h : j < l.length) : (intV l)[j]? = some (.int .i64 l[j]) := by simp [intV, h]
def RetPrt (o : Option (List Int)) (w : World) (e : Ending) (w' : World) : Prop := ∃ v, e = .returned (.tuple #[v, .bool o.isSome]) ∧ Below w.heap.size w w' ∧
  ∀ xs, o = some xs → xs ≠ [] → ∃ g c, v = .slice (some ⟨g, 0, none⟩) xs.length c ∧ ∀ j, (h : j < xs.length) → w'.cell? ⟨g, j, none⟩ = some (.int .i64 xs[j])
theorem prt_none {w w' : World} {v : Value} (hb : Below w.heap.size w w') : RetPrt none w (.returned (.tuple #[v, .bool false])) w' := ⟨v, rfl, hb, fun xs h => by cases h⟩
theorem ext_from (t : ByteArray) (n : Nat) : (t.extract n t.size).data.toList = t.data.toList.drop n := by rw [Lib.extract_to_end]
theorem ext_to (t : ByteArray) (n : Nat) : (t.extract 0 n).data.toList = t.data.toList.take n := by rw [Lib.extract_data]; simp
def widths (ws : List Nat) : Prop := ∀ j, (h : j < ws.length) → 1 ≤ ws[j] ∧ ws[j] ≤ 4
set_option maxHeartbeats 2000000 in
set_option maxRecDepth 100000 in
theorem parts_c (s : ByteArray) (ws : List Nat) (g0 c0 : Nat) (w : World) (hs : s.size ≤ 9223372036854775807) (hw : widths ws) (hlen : ws.length ≤ 10)
    (hg : g0 < w.heap.size) (hc : ∀ j, (h : j < ws.length) → w.cell? ⟨g0, j, none⟩ = some (.int .i64 ((ws[j] : Nat) : Int))) :
    Calls Tryz.prog 125 #[.string s, .slice (some ⟨g0, 0, none⟩) ws.length c0] w (RetPrt (prt ws s.data.toList) w) := by
  obtain ⟨i0, hi⟩ : ∃ i, Tryz.prog.info? 3 = some i := ⟨_, rfl⟩
  have hz0 : i0.zero = some (.int .i64 0) := by obtain rfl := Option.some.inj (hi.symm.trans rfl); rfl
  have hz1 : i0.size = 1 := by obtain rfl := Option.some.inj (hi.symm.trans rfl); rfl
  have hz2 : i0.bytes = 8 := by obtain rfl := Option.some.inj (hi.symm.trans rfl); rfl
  obtain ⟨O, hO⟩ : ∃ O, prt ws s.data.toList = O := ⟨_, rfl⟩
  have HO := Lib.hid hO
  rw [hO]
  have HW := Lib.hid hw
  have HC := Lib.hid hc
  obtain ⟨N, hN⟩ : ∃ N, ws.length = N := ⟨_, rfl⟩
  have HN := Lib.hid hN
  rw [hN] at hlen ⊢
  clear hO hw hc hN
  go_enter Tryz.func125, Tryz.ntmps125
  go_wp2
  go_loopw [0, 6, 13] (fun x b i wr => ∃ (k m c : Nat) (A : Option Addr) (t : ByteArray) (acc : List Int), k ≤ N ∧ i = .int .i64 k ∧ x = .string t ∧ b = .slice A m c ∧ m = k ∧ Hid (acc.length = m) ∧ t.size ≤ 9223372036854775807 ∧
      wr.ownsRow w.heap.size 3 1 (.slice A m c) m (intV acc) ∧ Below w.heap.size w wr ∧ Hid (O = (prt (ws.drop k) t.data.toList).map (fun r => acc ++ r))) (fun _ _ i _ => N - (intOf i).toNat)
  case atStart => exact ⟨0, 0, 0, none, s, [], Nat.zero_le _, rfl, rfl, rfl, rfl, Lib.hid rfl, hs, World.ownsRow_nil _ _ _ _, Below.refl _ _, Lib.hid (by rw [← HO.out, List.drop_zero]; simp)⟩
  case round =>
    obtain ⟨k, m, c, A, t, acc, hk, rfl, rfl, rfl, hmk, HM, ht, hown, hb, HR⟩ := hrel
    subst hmk
    have hz := hb.size
    rcases Nat.lt_or_ge m N with hlt | hge
    · have hlt' : m < ws.length := by rw [HN.out]; exact hlt
      obtain ⟨n1, n2⟩ := HW.out m hlt'
      have hcell := HC.out m hlt'
      have hdrop : ws.drop m = ws[m] :: ws.drop (m + 1) := (List.getElem_cons_drop hlt').symm
      obtain ⟨n, hn⟩ : ∃ n, ws[m] = n := ⟨_, rfl⟩
      rw [hn] at n1 n2 hcell hdrop
      have hcell := (hb.cell (p := ⟨g0, m, none⟩) hg).trans hcell
      have hR := HR.out
      rw [hdrop] at hR
      clear hn hdrop
      by_cases hsz : t.size < n
      · rw [prt_short (by rw [szL]; exact hsz)] at hR
        have HR2 := Lib.hid (show O = none from hR)
        rw [HR2.out]
        clear hR
        go_wp2
        go_ret2
        exact prt_none hb
      have q : (n : Int) ≤ (t.size : Int) := by omega
      have hd := isdigs_c (t.extract 0 n)
      have HD := Lib.hid (fun w => hd w (by rw [ByteArray.size_extract]; omega))
      clear hd
      rw [ext_to] at HD
      cases hdg : digs (t.data.toList.take n) with
      | false =>
        rw [hdg] at HD
        rw [prt_bad hdg] at hR
        have HR2 := Lib.hid (show O = none from hR)
        rw [HR2.out]
        clear hR hdg
        go_wp2_with fail
        refine (HD.out _).mono ?_
        rintro e w2 ⟨rfl, rfl⟩
        go_wp2
        go_ret2
        exact prt_none hb
      | true =>
        rw [hdg] at HD
        have HA := Lib.hid (fun w => atoi_c (t.extract 0 n) w (by rw [ByteArray.size_extract]; omega) (by rw [ext_to]; exact hdg))
        rw [ext_to] at HA
        have hdv := dv_lt4 hdg (by rw [List.length_take]; omega)
        rw [prt_next (by rw [szL]; omega) hdg] at hR
        obtain ⟨v, hv⟩ : ∃ v, dv (t.data.toList.take n) = v := ⟨_, rfl⟩
        rw [hv] at HA hR hdv
        have HR2 := Lib.hid (show O = (prt (ws.drop (m + 1)) (t.extract n t.size).data.toList).map (fun r => (acc ++ [(v : Int)]) ++ r) by
          rw [hR, ext_from, Option.map_map]
          congr 1
          funext r
          simp)
        have hts : (t.extract n t.size).size ≤ 9223372036854775807 := by rw [ByteArray.size_extract]; omega
        have HTS := Lib.hid hts
        have HOW := Lib.hid hown
        have HM2 := Lib.hid (show (acc ++ [(v : Int)]).length = m + 1 by rw [List.length_append, HM.out]; rfl)
        clear hR hdg hv hown hts
        go_wp2_with fail
        refine (HD.out _).mono ?_
        rintro e w2 ⟨rfl, rfl⟩
        go_wp2_with fail
        refine (HA.out _).mono ?_
        rintro e w2 ⟨rfl, hb2⟩
        have hown2 := own_below HOW.out hb2
        have hbb := below_then hb2 hb hz
        have hz2' := hbb.size
        have HOW2 := Lib.hid hown2
        clear hown2 hb2
        go_wp2_with (at_builtin; (with_reducible refine wpList_push_own rfl _ _ 49 rfl w.heap.size 3 i0 (.int .i64 0) 8 Tryz.underlying49 hi hz0 hz1 hz2 rfl (.slice A m c) m (intV acc) rfl HOW2.out (.int .i64 (v : Int)) rfl rfl (by unfold maxLen; omega) (by omega) hz2' ?_); intro A3 c3 w3 hown3 hg3)
        rw [intV_snoc] at hown3
        have hb3 := hbb.grown hg3 hz2' (fun k hk => (HOW2.out.lt k hk).1)
        have HOW3 := Lib.hid hown3
        clear hown3 hg3
        go_wp2
        go_roundw
        case rel => exact ⟨m + 1, m + 1, c3, A3, _, acc ++ [(v : Int)], by omega, by go_num, rfl, rfl, rfl, HM2, HTS.out, HOW3.out, hb3, HR2⟩
        case measure => simp [intOf]; omega
    · obtain rfl : m = N := by omega
      have hR := HR.out
      rw [List.drop_eq_nil_of_le (by rw [HN.out]; exact Nat.le_refl _)] at hR
      have HOW := Lib.hid hown
      have HB := Lib.hid hb
      clear hown hb
      by_cases he : t.data.toList = []
      · have hR2 := Lib.hid (show O = some acc by rw [hR, he]; simp [prt])
        have ht0 : t = ⟨#[]⟩ := by apply ByteArray.ext; rw [← Array.toList_inj]; exact he
        subst ht0
        clear he hR
        go_wp2
        go_ret2
        rw [hR2.out]
        refine ⟨_, rfl, HB.out, fun xs hxs hne => ?_⟩
        obtain rfl := Option.some.inj hxs
        have hm := HM.out
        have hpos : 0 < acc.length := List.length_pos_iff.2 hne
        obtain ⟨g, rfl⟩ : ∃ g, A = some ⟨g, 0, none⟩ := by
          rcases HOW.out.2 with h1 | ⟨g, cap, cur, hv, -⟩
          · obtain ⟨h2, h3⟩ := h1
            injection h2 with e1 e2 e3
            omega
          · injection hv with e1 e2 e3
            exact ⟨g, e1⟩
        have hcs := HOW.out.cells (g := g) rfl
        refine ⟨g, c, by rw [hm]; rfl, fun j hj => ?_⟩
        have := hcs j _ (intV_at hj)
        by_cases e : j = 0
        · subst e; exact this
        · simpa [Addr.add, e] using this
      · have hR2 := Lib.hid (show O = none by
          rw [hR, prt, if_neg (by rw [List.isEmpty_iff]; exact he)]; rfl)
        have e1 : t.toList.isEmpty = false := by rw [Lib.toList_data, Bool.eq_false_iff]; intro h; rw [List.isEmpty_iff] at h; exact he h
        clear he hR
        go_wp2
        go_ret2
        rw [hR2.out]
        exact prt_none HB.out

/-! ### The day of a week -/
def RetO (o : Option Int) (w : World) (e : Ending) (w' : World) : Prop := ∃ n : Int, e = .returned (.tuple #[.int .i64 n, .bool o.isSome]) ∧ (∀ v, o = some v → n = v) ∧ Below w.heap.size w w'
theorem retO_none {o : Option Int} {n : Int} {w w' : World} (ho : o = none) (hb : Below w.heap.size w w') : RetO o w (.returned (.tuple #[.int .i64 n, .bool false])) w' := by subst ho; exact ⟨n, rfl, (fun v h => by cases h), hb⟩
set_option maxHeartbeats 1000000 in
set_option maxRecDepth 100000 in
theorem weekday3_c (y k d : Int) (w : World) (hy : 0 ≤ y ∧ y ≤ 9999) (hk : 0 ≤ k ∧ k ≤ 99) (hd : 0 ≤ d ∧ d ≤ 9) :
    Calls Tryz.prog 127 #[.int .i64 y, .int .i64 k, .int .i64 d] w (RetO (weekO y k d) w) := by
  obtain ⟨hy0, hy9⟩ := hy
  obtain ⟨hk0, hk9⟩ := hk
  obtain ⟨hd0, hd9⟩ := hd
  by_cases h1 : 1 ≤ y ∧ y ≤ 9999
  case neg =>
    have HO := Lib.hid (weekO_no (weekB_neg (y := y) (w := k) (d := d) (by omega)))
    go_enter Tryz.func127, Tryz.ntmps127
    go_wp2_with fail
    refine (out_yes _ _ _ _ h1).mono ?_
    rintro e w1 ⟨rfl, rfl⟩
    go_wp2
    go_ret2
    exact retO_none HO.out (Below.refl _ _)
  by_cases h2 : 1 ≤ d ∧ d ≤ 7
  case neg =>
    have HO := Lib.hid (weekO_no (weekB_neg (y := y) (w := k) (d := d) (by omega)))
    go_enter Tryz.func127, Tryz.ntmps127
    go_wp2_with fail
    refine (out_no _ _ _ _ h1).mono ?_
    rintro e w1 ⟨rfl, rfl⟩
    go_wp2_with fail
    refine (out_yes _ _ _ _ h2).mono ?_
    rintro e w1 ⟨rfl, rfl⟩
    go_wp2
    go_ret2
    exact retO_none HO.out (Below.refl _ _)
  have hB := bef_bd (y := y) (by omega) (by omega)
  obtain ⟨W, hW⟩ : ∃ W, weekN y k d = W := ⟨_, rfl⟩
  have HW := Lib.hid (show bef y + 4 - (bef y + 4 - 1) % 7 + (k - 1) * 7 + d - 1 = W from hW)
  have hm : 0 ≤ (bef y + 4 - 1) % 7 ∧ (bef y + 4 - 1) % 7 ≤ 6 := by omega
  obtain ⟨m0, m6⟩ := hm
  cases h3 : dayB W with
  | false =>
    have HO := Lib.hid (weekO_no (y := y) (w := k) (d := d) (decide_eq_false (fun h => by rw [hW] at h; have := dayB_no h3; exact this h.2.2.1)))
    have H3 := Lib.hid h3
    clear h3 hW
    go_enter Tryz.func127, Tryz.ntmps127
    go_wp2_with fail
    refine (out_no _ _ _ _ h1).mono ?_
    rintro e w1 ⟨rfl, rfl⟩
    go_wp2_with fail
    refine (out_no _ _ _ _ h2).mono ?_
    rintro e w1 ⟨rfl, rfl⟩
    go_wp2_with fail
    refine (before_c _ _ (by omega)).mono ?_
    rintro e w1 ⟨rfl, rfl⟩
    go_wp2_with fail
    refine (weekday_c _ _ (by omega)).mono ?_
    rintro e w1 ⟨rfl, rfl⟩
    go_wp2_with fail
    rw [HW.out]
    refine (isday_c _ _).mono ?_
    rw [H3.out]
    rintro e w1 ⟨rfl, rfl⟩
    go_wp2
    go_ret2
    exact retO_none HO.out (Below.refl _ _)
  | true =>
    have h4 := dayB_yes h3
    obtain ⟨z, zm, zd, hZ⟩ := thu_ex h4.1 h4.2
    obtain ⟨⟨z1, z2⟩, -, -, -, b1, b2⟩ := hZ.facts
    have HZ := Lib.hid hZ
    have H3 := Lib.hid h3
    have hO : (z == y) = true → (wk W z == k) = true → weekO y k d = some W := by
      intro e1 e2
      have e1 := beq_iff_eq.1 e1
      have e2 := beq_iff_eq.1 e2
      subst e1
      rw [weekO_yes (decide_eq_true ⟨h1, h2, by rw [hW]; exact h4, by rw [hW]; exact b1, by rw [hW]; exact b2, by rw [hW]; exact e2⟩), hW]
    have hN : (z == y) = false ∨ (wk W z == k) = false → weekO y k d = none := by
      intro e
      refine weekO_no (decide_eq_false (fun h => ?_))
      rw [hW] at h
      have := year_unique b1 b2 h.2.2.2.1 h.2.2.2.2.1
      subst this
      rcases e with e | e
      · exact (beq_eq_false_iff_ne.1 e) rfl
      · exact (beq_eq_false_iff_ne.1 e) h.2.2.2.2.2
    have HO := Lib.hid hO
    have HNO := Lib.hid hN
    obtain ⟨V, hV⟩ : ∃ V, wk W z = V := ⟨_, rfl⟩
    have hwk := weekof_c W z zm zd
    have HWK := Lib.hid (fun w => hwk w h4.1 h4.2 HZ.out)
    rw [hV] at HWK HO HNO
    clear hO hN hwk hW hZ h3 hV b1 b2
    cases e1 : (z == y) with
    | false =>
      rw [e1] at HNO
      go_enter Tryz.func127, Tryz.ntmps127
      go_wp2_with fail
      refine (out_no _ _ _ _ h1).mono ?_
      rintro e w1 ⟨rfl, rfl⟩
      go_wp2_with fail
      refine (out_no _ _ _ _ h2).mono ?_
      rintro e w1 ⟨rfl, rfl⟩
      go_wp2_with fail
      refine (before_c _ _ (by omega)).mono ?_
      rintro e w1 ⟨rfl, rfl⟩
      go_wp2_with fail
      refine (weekday_c _ _ (by omega)).mono ?_
      rintro e w1 ⟨rfl, rfl⟩
      go_wp2_with fail
      rw [HW.out]
      refine (isday_c _ _).mono ?_
      rw [H3.out]
      rintro e w1 ⟨rfl, rfl⟩
      go_wp2_with fail
      refine (HWK.out _).mono ?_
      rintro e w1 ⟨rfl, hb1⟩
      go_wp2
      go_ret2
      exact retO_none (HNO.out (.inl (by trivial))) hb1
    | true =>
      rw [e1] at HO HNO
      cases e2 : (V == k) with
      | false =>
        rw [e2] at HNO
        go_enter Tryz.func127, Tryz.ntmps127
        go_wp2_with fail
        refine (out_no _ _ _ _ h1).mono ?_
        rintro e w1 ⟨rfl, rfl⟩
        go_wp2_with fail
        refine (out_no _ _ _ _ h2).mono ?_
        rintro e w1 ⟨rfl, rfl⟩
        go_wp2_with fail
        refine (before_c _ _ (by omega)).mono ?_
        rintro e w1 ⟨rfl, rfl⟩
        go_wp2_with fail
        refine (weekday_c _ _ (by omega)).mono ?_
        rintro e w1 ⟨rfl, rfl⟩
        go_wp2_with fail
        rw [HW.out]
        refine (isday_c _ _).mono ?_
        rw [H3.out]
        rintro e w1 ⟨rfl, rfl⟩
        go_wp2_with fail
        refine (HWK.out _).mono ?_
        rintro e w1 ⟨rfl, hb1⟩
        go_wp2
        go_ret2
        exact retO_none (HNO.out (.inr (by trivial))) hb1
      | true =>
        rw [e2] at HO
        have HOO := Lib.hid (HO.out rfl rfl)
        go_enter Tryz.func127, Tryz.ntmps127
        go_wp2_with fail
        refine (out_no _ _ _ _ h1).mono ?_
        rintro e w1 ⟨rfl, rfl⟩
        go_wp2_with fail
        refine (out_no _ _ _ _ h2).mono ?_
        rintro e w1 ⟨rfl, rfl⟩
        go_wp2_with fail
        refine (before_c _ _ (by omega)).mono ?_
        rintro e w1 ⟨rfl, rfl⟩
        go_wp2_with fail
        refine (weekday_c _ _ (by omega)).mono ?_
        rintro e w1 ⟨rfl, rfl⟩
        go_wp2_with fail
        rw [HW.out]
        refine (isday_c _ _).mono ?_
        rw [H3.out]
        rintro e w1 ⟨rfl, rfl⟩
        go_wp2_with fail
        refine (HWK.out _).mono ?_
        rintro e w1 ⟨rfl, hb1⟩
        go_wp2
        go_ret2
        rw [HOO.out]
        exact ⟨W, rfl, fun v h => Option.some.inj h, hb1⟩
end Go.Proofs.YtegobkaldedhhaaGreatDoor
