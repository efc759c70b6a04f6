
/- Plain: what the reference's ReadGrouped comes to is what the program's comes to. -/
import Derived.Test.YtmeefinnefanpaaDoorT14
import Derived.Test.YtmeefinnefanpaaDoorQ0
namespace Go.Proofs.YtmeefinnefanpaaDoor
open Go.RowKit Limb
set_option linter.unusedVariables false
set_option linter.unusedSimpArgs false
set_option linter.unnecessarySimpa false

/-- Pieces that stand as groups: the first one short, the others of three digits. -/
def regB : List (List UInt8) → Bool
  | [] => true
  | p :: r => digB p && decide (p.length ≤ 3) && r.all fun q => digB q && decide (q.length = 3)
def noSign (l : List UInt8) : List UInt8 := if l.head? == some 45 then l.tail else l
def dotTl (b : Bool) (l : List UInt8) : List UInt8 := if b then 46 :: l else []
def refGrp (l : List UInt8) (pt gr : UInt8) : Int × Int × Int :=
  let c := cutL l pt
  if decide (40 < l.length) || (decide ((46 : UInt8) ∈ c.1) && decide (gr ≠ 46)) || (decide (pt ≠ 46) && decide ((46 : UInt8) ∈ c.2.1)) then (0, 0, 10)
  else if (readText (strike c.1 gr ++ dotTl c.2.2 c.2.1)).2.2 = 10 then (0, 0, 10)
  else if regB (pcs gr (noSign c.1)) then readText (strike c.1 gr ++ dotTl c.2.2 c.2.1) else (0, 0, 10)

theorem jn_snoc {g : UInt8} {q : List UInt8} : ∀ {ps : List (List UInt8)}, ps ≠ [] → jn g (ps ++ [q]) = jn g ps ++ g :: q
  | [], h => absurd rfl h
  | [p], _ => rfl
  | p :: x :: ps, _ => by
    have ih := jn_snoc (g := g) (q := q) (ps := x :: ps) (by simp)
    have e1 := jn_cons (g := g) (p := p) (ps := (x :: ps) ++ [q]) (by simp)
    have e2 := jn_cons (g := g) (p := p) (ps := x :: ps) (by simp)
    rw [List.cons_append, e1, ih, e2, List.append_assoc]
    rfl
theorem strike_jn {g : UInt8} : ∀ {ps : List (List UInt8)}, (∀ p ∈ ps, g ∉ p) → strike (jn g ps) g = ps.flatten
  | [], _ => rfl
  | [p], h => by
    have := strike_none (List.count_eq_zero.2 (h p (by simp)))
    show strike p g = _
    rw [this]; simp
  | p :: x :: ps, h => by
    have ih := strike_jn (g := g) (ps := x :: ps) (fun q hq => h q (by simp at hq ⊢; exact .inr hq))
    have h1 := strike_none (List.count_eq_zero.2 (h p (by simp)))
    rw [jn_cons (by simp), List.flatten_cons, ← ih]
    unfold strike at h1 ⊢
    rw [List.filter_append, h1, List.filter_cons]
    simp
theorem grp_jn {g : UInt8} {p : List UInt8} (hp : 1 ≤ p.length ∧ p.length ≤ 3) : ∀ (k : Nat) (r : List (List UInt8)), r.length = k → (∀ q ∈ r, q.length = 3) → grp g (p ++ r.flatten) = jn g (p :: r)
  | 0, r, hk, hr => by
    have : r = [] := List.length_eq_zero_iff.1 hk
    subst this
    rw [List.flatten_nil, List.append_nil, grp_short hp.2]; rfl
  | k + 1, r, hk, hr => by
    obtain ⟨r', q, rfl⟩ : ∃ r' q, r = r' ++ [q] := by
      have hne : r ≠ [] := by intro h; rw [h] at hk; simp at hk
      exact ⟨r.dropLast, r.getLast hne, (List.dropLast_concat_getLast hne).symm⟩
    have hq : q.length = 3 := hr q (by simp)
    have ih := grp_jn (g := g) hp k r' (by simpa using hk) (fun x hx => hr x (by simp [hx]))
    have hl : (p ++ (r' ++ [q]).flatten).length = (p ++ r'.flatten).length + 3 := by simp [hq]; omega
    have ht : (p ++ (r' ++ [q]).flatten) = (p ++ r'.flatten) ++ q := by simp
    have hp2 : 1 ≤ (p ++ r'.flatten).length := by rw [List.length_append]; omega
    rw [grp_long (by omega), hl, Nat.add_sub_cancel, ht, List.take_left' rfl, List.drop_left' rfl, ih, ← List.cons_append, jn_snoc (by simp)]
theorem dig_ne {p : List UInt8} (h : digB p = true) : 1 ≤ p.length := by
  cases p with
  | nil => cases h
  | cons a l => simp
theorem digB_mem {l : List UInt8} (h : digB l = true) : ∀ c ∈ l, 48 ≤ c.toNat ∧ c.toNat ≤ 57 := by
  unfold digB at h
  rw [Bool.and_eq_true] at h
  intro c hc
  exact of_decide_eq_true (List.all_eq_true.1 h.2 c hc)
theorem reg_out {g : UInt8} {W : List UInt8} (h : regB (pcs g W) = true) : digB (strike W g) = true ∧ grp g (strike W g) = W := by
  have hj := jn_pcs g W
  have hn := pcs_no g W
  have hne := pcs_ne g W
  generalize pcs g W = ps at h hj hn hne
  subst hj
  rw [strike_jn hn]
  rcases ps with _ | ⟨p, r⟩
  · exact absurd rfl hne
  · unfold regB at h
    rw [Bool.and_eq_true, Bool.and_eq_true, List.all_eq_true] at h
    obtain ⟨⟨h1, h2⟩, h3⟩ := h
    have h2 := of_decide_eq_true h2
    refine ⟨?_, ?_⟩
    · refine digB_of (by have := dig_ne h1; rw [List.flatten_cons, List.length_append]; omega) (fun c hc => ?_)
      rw [List.flatten_cons, List.mem_append, List.mem_flatten] at hc
      rcases hc with hc | ⟨q, hq, hc⟩
      · exact digB_mem h1 c hc
      · have := h3 q hq
        rw [Bool.and_eq_true] at this
        exact digB_mem this.1 c hc
    · rw [List.flatten_cons]
      exact grp_jn ⟨dig_ne h1, h2⟩ _ r rfl (fun q hq => by have := h3 q hq; rw [Bool.and_eq_true] at this; exact of_decide_eq_true this.2)
theorem reg_app {ps : List (List UInt8)} {q : List UInt8} (h : regB ps = true) (hne : ps ≠ []) (hq : digB q = true ∧ q.length = 3) : regB (ps ++ [q]) = true := by
  rcases ps with _ | ⟨p, r⟩
  · exact absurd rfl hne
  · unfold regB at h
    rw [List.cons_append, regB]
    rw [Bool.and_eq_true] at h ⊢
    refine ⟨h.1, ?_⟩
    rw [List.all_append, h.2]
    simp [hq.1, hq.2]
theorem reg_grp {g : UInt8} {D : List UInt8} (hg : g ∉ D) (hd : digB D = true) : regB (pcs g (grp g D)) = true := by
  refine grp_ind (P := fun l m => g ∉ l → digB l = true → regB (pcs g m) = true) g (fun l hl hg hd => ?_) (fun l hl ih hg hd => ?_) D.length D (Nat.le_refl _) hg hd
  · rw [pcs_none hg]
    show (digB l && decide (l.length ≤ 3) && _) = true
    rw [hd, decide_eq_true hl]; rfl
  · have hd' := digB_mem hd
    rw [pcs_app (fun h => hg (List.mem_of_mem_drop h))]
    refine reg_app (ih (fun h => hg (List.mem_of_mem_take h)) (digB_of (by rw [List.length_take]; omega) (fun c hc => hd' c (List.mem_of_mem_take hc)))) (pcs_ne _ _) ⟨digB_of (by rw [List.length_drop]; omega) (fun c hc => hd' c (List.mem_of_mem_drop hc)), by rw [List.length_drop]; omega⟩
theorem reg_iff {g : UInt8} {W : List UInt8} (hdg : ∀ c : UInt8, 48 ≤ c.toNat ∧ c.toNat ≤ 57 → c ≠ g) : regB (pcs g W) = true ↔ digB (strike W g) = true ∧ grp g (strike W g) = W := by
  refine ⟨reg_out, fun ⟨h1, h2⟩ => ?_⟩
  have hg : g ∉ strike W g := fun h => by
    unfold strike at h
    have := (List.mem_filter.1 h).2
    simp at this
  have := reg_grp hg h1
  rwa [h2] at this
theorem strike_mem {g c : UInt8} {l : List UInt8} (h : c ∈ l) (hc : c ≠ g) : c ∈ strike l g := by
  unfold strike
  exact List.mem_filter.2 ⟨h, by simpa using hc⟩
theorem no46 {l : List UInt8} (h : digB l = true) : (46 : UInt8) ∉ l := fun e => by have := digB_mem h _ e; revert this; decide
theorem cut_tl {D a : List UInt8} {is : Bool} (hD : (46 : UInt8) ∉ D) (hia : is = false → a = []) : cutL (D ++ dotTl is a) 46 = (D, a, is) := by
  cases is with
  | true => show cutL (D ++ 46 :: a) 46 = _; rw [cutL_hit hD]
  | false => rw [hia rfl]; show cutL (D ++ []) 46 = _; rw [List.append_nil, cutL_miss hD]
/-- What the plain text is read as. -/
def rdPl (neg : Bool) (W D a : List UInt8) (is : Bool) : Int × Int × Int :=
  if !wholeB D || (is && (!digB a || decide (9 < a.length))) then (0, 0, 10) else readR neg (D ++ a) a.length
theorem readText_pl {neg : Bool} {D a : List UInt8} {is : Bool} (hD : digB D = true) (hia : is = false → a = []) (hlen : D.length + a.length + 2 ≤ 42) (hl : ((if neg then [45] else []) ++ (D ++ dotTl is a)).length ≤ 40) :
    readText ((if neg then [45] else []) ++ (D ++ dotTl is a)) = rdPl neg D D a is := by
  have hh : ((((if neg then [45] else []) ++ (D ++ dotTl is a)) : List UInt8).head? == some 45) = neg := by
    cases neg with
    | true => rfl
    | false =>
      rcases D with _ | ⟨c, D⟩
      · cases hD
      · have := digB_mem hD c (by simp)
        show ((some c : Option UInt8) == some 45) = false
        simp only [beq_eq_false_iff_ne, ne_eq, Option.some.injEq]
        rintro rfl
        revert this; decide
  have ht : (if neg = true then (((if neg then [45] else []) ++ (D ++ dotTl is a)) : List UInt8).tail else ((if neg then [45] else []) ++ (D ++ dotTl is a))) = D ++ dotTl is a := by
    cases neg <;> rfl
  unfold readText
  simp only
  rw [hh, ht, cut_tl (no46 hD) hia]
  unfold rdPl
  simp only
  rw [decide_eq_false (Nat.not_lt.2 hl)]
  rfl

theorem cut_split {l : List UInt8} {pt : UInt8} (hp : pt ≠ 45) : ∃ W a is, cutL (noSign l) pt = (W, a, is) ∧ cutL l pt = ((if l.head? == some 45 then [45] else []) ++ W, a, is) ∧ noSign ((if l.head? == some 45 then [45] else []) ++ W) = W ∧ (is = false → a = []) ∧ W.length + a.length + (if is then 1 else 0) + (if l.head? == some 45 then 1 else 0) ≤ l.length := by
  refine ⟨_, _, _, rfl, ?_⟩
  cases hh : l.head? == some 45 with
  | true =>
    rcases l with _ | ⟨c, l⟩
    · cases hh
    · have hc : c = 45 := by simpa using hh
      subst hc
      have e : noSign ((45 : UInt8) :: l) = l := rfl
      rw [e]
      have h1 : cutL ((45 : UInt8) :: l) pt = (45 :: (cutL l pt).1, (cutL l pt).2.1, (cutL l pt).2.2) := by
        rw [cutL, if_neg (by simpa using hp.symm)]
      rw [h1]
      refine ⟨rfl, rfl, (cutL_len l pt).2, ?_⟩
      rcases cutL_index l pt with ⟨_, h⟩ | ⟨o, ho, _, h⟩
      · rw [h]; simp
      · rw [h]; simp; omega
  | false =>
    have e : noSign l = l := by unfold noSign; rw [hh]; rfl
    rw [e]
    have e2 : noSign (cutL l pt).1 = (cutL l pt).1 := by
      unfold noSign
      rcases l with _ | ⟨c, l⟩
      · rfl
      · rw [cutL]
        split
        · rfl
        · rw [if_neg]
          simpa using hh
    refine ⟨rfl, e2, (cutL_len l pt).2, ?_⟩
    rcases cutL_index l pt with ⟨_, h⟩ | ⟨o, ho, _, h⟩
    · rw [h]; simp
    · rw [h]; simp; omega
theorem marks_no {pt gr : UInt8} (h : marksF (pt.toNat : Int) (gr.toNat : Int) = 0) : pt ≠ 45 ∧ gr ≠ 45 := by
  unfold marksF at h
  split at h
  · cases h
  · next hn =>
    constructor
    · rintro rfl; exact hn (.inr (.inl (by decide)))
    · rintro rfl; exact hn (.inr (.inr (by decide)))
theorem strike_sign {W : List UInt8} {gr : UInt8} {b : Bool} (h : gr ≠ 45) : strike ((if b then [45] else []) ++ W) gr = (if b then [45] else []) ++ strike W gr := by
  cases b with
  | false => rfl
  | true =>
    show strike (45 :: W) gr = 45 :: strike W gr
    unfold strike
    rw [List.filter_cons, if_pos (by simpa using h.symm)]
/-- The reference reads groups as the program does. -/
theorem refGrp_eq {l : List UInt8} {pt gr : UInt8} (hm : marksF (pt.toNat : Int) (gr.toNat : Int) = 0) : refGrp l pt gr = readGrp l pt gr := by
  have hno := marks_no hm
  have hdg := marks_dig hm
  obtain ⟨W, a, is, h1, h2, h3, h4, h5⟩ := cut_split (l := l) hno.1
  have hp : readGrp l pt gr = if decide (40 < l.length) || !wholeB (strike W gr) || !decide (grp gr (strike W gr) = W) || (is && (!digB a || decide (9 < a.length))) then (0, 0, 10) else readR (l.head? == some 45) (strike W gr ++ a) a.length := by
    unfold readGrp
    simp only
    rw [show (if (l.head? == some 45) = true then l.tail else l) = noSign l from rfl, h1]
  unfold refGrp
  simp only
  rw [h2, hp]
  simp only
  rw [h3, strike_sign hno.2]
  generalize hs : (l.head? == some 45) = neg at *
  clear hp h1 h2 h3 hs
  have hdW := reg_iff (g := gr) (W := W) (fun c hc => (hdg c hc).2)
  have hstl := strike_len W gr
  cases hr : regB (pcs gr W) with
  | false =>
    have hb : ¬ (digB (strike W gr) = true ∧ grp gr (strike W gr) = W) := fun h => by rw [hdW.2 h] at hr; cases hr
    have hw : (!wholeB (strike W gr) || !decide (grp gr (strike W gr) = W)) = true := by
      by_cases h6 : digB (strike W gr) = true
      · rw [decide_eq_false (fun h => hb ⟨h6, h⟩)]; simp
      · unfold wholeB
        rw [Bool.not_eq_true] at h6
        rw [h6]; rfl
    rw [if_pos (c := (decide (40 < l.length) || !wholeB (strike W gr) || !decide (grp gr (strike W gr) = W) || (is && (!digB a || decide (9 < a.length)))) = true) (by rw [Bool.or_assoc (decide _), hw]; simp)]
    have key : ∀ (P Q : Prop) [Decidable P] [Decidable Q] (x : Int × Int × Int), (if P then ((0 : Int), (0 : Int), (10 : Int)) else if Q then (0, 0, 10) else if false = true then x else (0, 0, 10)) = (0, 0, 10) := by
      intro P Q _ _ x
      split
      · rfl
      · split <;> rfl
    exact key _ _ _
  | true =>
    obtain ⟨hd, hg⟩ := hdW.1 hr
    rw [decide_eq_true hg]
    have c2 : (decide ((46 : UInt8) ∈ (if neg then [45] else []) ++ W) && decide (gr ≠ 46)) = false := by
      rw [Bool.and_eq_false_iff]
      by_cases hgr : gr = 46
      · exact .inr (by simp [hgr])
      · refine .inl (decide_eq_false fun hin => ?_)
        rcases List.mem_append.1 hin with h | h
        · cases neg
          · cases h
          · revert h; decide
        · exact no46 hd (strike_mem h (fun e => hgr e.symm))
    rw [c2, Bool.or_false]
    by_cases h40 : 40 < l.length
    · rw [decide_eq_true h40]; rfl
    rw [decide_eq_false h40]
    have hlen : ((if neg then [45] else []) ++ (strike W gr ++ dotTl is a)).length ≤ 40 := by
      rw [List.length_append, List.length_append]
      have e1 : (if neg then [45] else ([] : List UInt8)).length = if neg then 1 else 0 := by cases neg <;> rfl
      have e2 : (dotTl is a).length ≤ a.length + if is then 1 else 0 := by cases is <;> simp [dotTl]
      omega
    rw [List.append_assoc, readText_pl hd h4 (by omega) hlen]
    by_cases c3 : (decide (pt ≠ 46) && decide ((46 : UInt8) ∈ a)) = true
    · rw [Bool.and_eq_true] at c3
      have ha : digB a = false := by
        cases h : digB a with
        | false => rfl
        | true => exact absurd (of_decide_eq_true c3.2) (no46 h)
      have hi : is = true := by
        cases is with
        | true => rfl
        | false => rw [h4 rfl] at c3; simp at c3
      rw [c3.1, c3.2, ha, hi]
      simp
    · rw [Bool.not_eq_true] at c3
      rw [c3]
      unfold rdPl
      by_cases hw : (!wholeB (strike W gr) || (is && (!digB a || decide (9 < a.length)))) = true
      · rw [if_pos hw]
        simp
        rw [Bool.or_eq_true] at hw
        intro k1 k2
        rcases hw with hw | hw
        · rw [k1] at hw; cases hw
        · rw [Bool.and_eq_true] at hw
          have := k2 hw.1
          rw [this.1, decide_eq_false (show ¬ 9 < a.length by omega)] at hw
          cases hw.2
      · rw [if_neg hw]
        rw [Bool.not_eq_true] at hw
        have hw2 := hw
        rw [Bool.or_eq_false_iff] at hw
        rw [if_neg (c := (false || !wholeB (strike W gr) || !true || (is && (!digB a || decide (9 < a.length)))) = true) (by rw [hw.1, hw.2]; simp)]
        split
        · cases ‹(false || false) = true›
        · split
          next h10 => 
            have : readR neg (strike W gr ++ a) a.length = (0, 0, 10) := by
              unfold readR made at h10 ⊢
              split at h10
              · split at h10
                · rw [if_pos ‹_›, if_pos ‹_›]
                · split at h10 <;> cases h10
              · split at h10 <;> cases h10
            rw [this]
          next h10 => rfl
end Go.Proofs.YtmeefinnefanpaaDoor
