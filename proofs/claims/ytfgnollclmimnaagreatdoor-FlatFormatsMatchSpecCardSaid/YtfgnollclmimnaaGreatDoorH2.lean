/- Plain: the text of a format, and that it is read as it. Plain: the text of a right format is read as this format. Plain: a format without a fault is right, and its text is short. -/
import Derived.Test.YtfgnollclmimnaaGreatDoorF6
import Derived.Lib.ItoaNum
-- merged: H0 H1 H2

namespace Go.Proofs.YtfgnollclmimnaaGreatDoor
open Nmb Work
set_option linter.unusedVariables false
set_option linter.unusedSimpArgs false

def dshL (s : ByteArray) : List UInt8 := if s = eS then [45] else s.data.toList
def kwL (k : Int) : List UInt8 := if k = 1 then wText.data.toList else if k = 2 then wNumber.data.toList else wDay.data.toList
def sdL (r : Bool) : List UInt8 := if r = true then wRight.data.toList else wLeft.data.toList
def pT (c : Col) : List (List UInt8) := if c.kind = 2 then [Lib.itoa c.places] else if c.kind = 3 then [Lib.itoa c.form] else []
def sT (mark : Int) (c : Col) : List (List UInt8) := if mark = 0 ∧ c.kind ≠ 3 then [sdL c.right, Lib.itoa c.fill] else []
def nT (c : Col) : List (List UInt8) := if c.need = true then [wNeed.data.toList] else []
def colT (mark : Int) (c : Col) : List (List UInt8) := [kwL c.kind, c.name.data.toList, Lib.itoa c.width] ++ (pT c ++ (sT mark c ++ nT c))
def kindT (k : RKd) : List (List UInt8) := [wKind.data.toList, k.tag.data.toList, Lib.itoa k.most, dshL k.under]
def headT (f : Fmt) : List (List UInt8) := if f.mark = 0 then [wFixed.data.toList] else [wMarked.data.toList, Lib.itoa f.mark, Lib.itoa f.quote]
def endsT (f : Fmt) : List (List UInt8) := [wEnds.data.toList, dshL f.head, dshL f.tail, dshL f.count, dshL f.sum]
def lnT (ws : List (List UInt8)) : List UInt8 := jn 32 ws ++ [10]
def kdsT (mark : Int) (ks : List RKd) : List (List (List UInt8)) := ks.flatMap fun k => kindT k :: k.fields.map (colT mark)
def linesT (f : Fmt) : List (List (List UInt8)) := headT f :: (kdsT f.mark f.kinds ++ [endsT f])
def textL (f : Fmt) : List UInt8 := (linesT f).flatMap lnT

/-! ### Words -/
def WdOk (p : List UInt8) : Prop := p ≠ [] ∧ (32 : UInt8) ∉ p ∧ (10 : UInt8) ∉ p
def WsOk (ws : List (List UInt8)) : Prop := ws ≠ [] ∧ ∀ p ∈ ws, WdOk p
theorem pcs_jn (g : UInt8) : ∀ {ps : List (List UInt8)}, ps ≠ [] → (∀ p ∈ ps, g ∉ p) → pcs g (jn g ps) = ps
  | [], h, _ => absurd rfl h
  | [p], _, h => pcs_none (h p (by simp))
  | p :: q :: ps, _, h => by
    rw [jn_cons (by simp), pcs_hit (h p (by simp)), pcs_jn g (by simp) (fun r hr => h r (List.mem_cons_of_mem _ hr))]
theorem jn_mem {g x : UInt8} : ∀ {ps : List (List UInt8)}, x ≠ g → (∀ p ∈ ps, x ∉ p) → x ∉ jn g ps
  | [], _, _ => by simp [jn]
  | [p], _, h => h p (by simp)
  | p :: q :: ps, hx, h => by
    rw [jn_cons (by simp), List.mem_append, List.mem_cons]
    rintro (k | k | k)
    · exact h p (by simp) k
    · exact hx k
    · exact jn_mem hx (fun r hr => h r (List.mem_cons_of_mem _ hr)) k
theorem wrd_of {ws : List (List UInt8)} (h : WsOk ws) : wrdS (bs (jn 32 ws)) = ws.map bs := by
  unfold wrdS
  rw [bs_toList, pcs_jn 32 h.1 (fun p hp => (h.2 p hp).2.1)]
theorem bs_eS {p : List UInt8} (h : p ≠ []) : bs p ≠ eS := fun e => h (by
  have := congrArg (fun s : ByteArray => s.data.toList) e
  simpa [bs, eS] using this)
theorem line_of {ws : List (List UInt8)} (h : WsOk ws) (st : FSt) (hen : st.ended = false) : lineF st (bs (jn 32 ws)) = wordsF st (wd (ws.map bs) 0) (ws.map bs).tail := by
  unfold lineF
  rw [wrd_of h, if_neg]
  rintro (k | k)
  · obtain ⟨x, hx, k⟩ := List.any_eq_true.1 k
    obtain ⟨p, hp, rfl⟩ := List.mem_map.1 hx
    exact bs_eS (h.2 p hp).1 (of_decide_eq_true k)
  · rw [hen] at k; cases k
theorem lns_text : ∀ (l : List (List (List UInt8))), (∀ ws ∈ l, WsOk ws) → lnsL (l.flatMap lnT) = l.map (jn 32) ∧ lnsE (l.flatMap lnT) = true
  | [], _ => ⟨rfl, rfl⟩
  | ws :: l, h => by
    have hn : (10 : UInt8) ∉ jn 32 ws := jn_mem (by decide) (fun p hp => ((h ws (by simp)).2 p hp).2.2)
    have e : (ws :: l).flatMap lnT = jn 32 ws ++ 10 :: l.flatMap lnT := by
      rw [List.flatMap_cons]; unfold lnT; simp
    obtain ⟨h1, h2⟩ := lns_text l (fun w hw => h w (List.mem_cons_of_mem _ hw))
    obtain ⟨h3, h4⟩ := lns_cut (b := l.flatMap lnT) hn
    rw [e, h3, h4, h1, h2]
    exact ⟨rfl, rfl⟩
theorem lines_cons {st st' : FSt} {i : Int} {a : List UInt8} {r : List (List UInt8)} (h : lineF st (bs a) = some st') : linesF true st i (a :: r) = linesF true st' (i + 1) r := by
  show (match lineF st (bs a) with | none => _ | some st' => _) = _
  rw [h]
  simp

/-! ### Numbers -/
def numOk (n : Nat) : Bool := nOk (bs (Lib.itoa n)) && decide (nVal (bs (Lib.itoa n)) = n) && decide (Lib.itoa n ≠ []) && !(Lib.itoa n).contains 32 && !(Lib.itoa n).contains 10 && decide ((Lib.itoa n).length ≤ 4)
set_option maxRecDepth 100000 in
theorem num_fin : ∀ i : Fin 2001, numOk i.val = true := by decide +kernel
theorem num_all {n : Int} (h : 0 ≤ n ∧ n ≤ 2000) : nOk (bs (Lib.itoa n)) = true ∧ nVal (bs (Lib.itoa n)) = n ∧ WdOk (Lib.itoa n) ∧ (Lib.itoa n).length ≤ 4 := by
  obtain ⟨k, rfl⟩ : ∃ k : Nat, n = k := ⟨n.toNat, by omega⟩
  have := num_fin ⟨k, by omega⟩
  unfold numOk at this
  simp only [Bool.and_eq_true, decide_eq_true_eq, Bool.not_eq_true', List.contains_eq_mem, decide_eq_false_iff_not] at this
  obtain ⟨⟨⟨⟨⟨h1, h2⟩, h3⟩, h4⟩, h5⟩, h6⟩ := this
  exact ⟨h1, h2, ⟨h3, h4, h5⟩, h6⟩
theorem num_y {n : Int} (h : 0 ≤ n ∧ n ≤ 255) : yOk (bs (Lib.itoa n)) = true := by
  obtain ⟨h1, h2, -⟩ := num_all (n := n) (by omega)
  unfold yOk
  rw [h1, h2, decide_eq_true h.2]; rfl

/-! ### Names and tags -/
theorem name_ok {s : ByteArray} (h : nameB s.data.toList = true) : WdOk s.data.toList ∧ s.size ≤ 40 ∧ s ≠ ⟨#[45]⟩ := by
  unfold nameB at h
  simp only [Bool.and_eq_true, decide_eq_true_eq, List.all_eq_true] at h
  obtain ⟨⟨⟨h1, h2⟩, h3⟩, h4⟩ := h
  have hl : s.data.toList.length = s.size := by simp
  have hb : ∀ c ∈ s.data.toList, c ≠ 32 ∧ c ≠ 10 := fun c hc => by
    have := h4 c hc
    constructor
    · rintro rfl; exact absurd this (by decide)
    · rintro rfl; exact absurd this (by decide)
  refine ⟨⟨fun e => by rw [e] at h1; simp at h1, fun k => (hb _ k).1 rfl, fun k => (hb _ k).2 rfl⟩, by omega, ?_⟩
  rintro rfl
  exact absurd h3 (by decide)
theorem tag_ok {s : ByteArray} (h1 : 1 ≤ s.size ∧ s.size ≤ 6) (h2 : tagL s.data.toList = true) : WdOk s.data.toList ∧ s ≠ ⟨#[45]⟩ := by
  unfold tagL at h2
  rw [List.all_eq_true] at h2
  have hl : s.data.toList.length = s.size := by simp
  have hb : ∀ c ∈ s.data.toList, c ≠ 32 ∧ c ≠ 10 ∧ c ≠ 45 := fun c hc => by
    have := h2 c hc
    refine ⟨?_, ?_, ?_⟩ <;> (rintro rfl; exact absurd this (by decide))
  refine ⟨⟨fun e => by rw [e] at hl; simp at hl; omega, fun k => (hb _ k).1 rfl, fun k => (hb _ k).2.1 rfl⟩, ?_⟩
  rintro rfl
  exact (hb 45 (by decide)).2.2 rfl
/-- A name or a tag, or nothing. -/
def OrOk (s : ByteArray) : Prop := s = eS ∨ WdOk s.data.toList ∧ s ≠ ⟨#[45]⟩
theorem dsh_ok {s : ByteArray} (h : OrOk s) : WdOk (dshL s) := by
  unfold dshL
  split
  · exact ⟨by decide, by decide, by decide⟩
  · rename_i h2
    rcases h with h | h
    · exact absurd h h2
    · exact h.1
theorem dsh_back {s : ByteArray} (h : OrOk s) : undS (bs (dshL s)) = s := by
  unfold dshL
  by_cases h2 : s = eS
  · rw [if_pos h2, h2]; decide
  · rw [if_neg h2, bs_self]
    unfold undS
    rw [if_neg (h.resolve_left h2).2]
end Go.Proofs.YtfgnollclmimnaaGreatDoor

namespace Go.Proofs.YtfgnollclmimnaaGreatDoor
open Nmb Work
set_option linter.unusedVariables false
set_option linter.unusedSimpArgs false

theorem wd_z (a : ByteArray) (l : List ByteArray) : wd (a :: l) 0 = a := rfl
theorem wd_s (a : ByteArray) (l : List ByteArray) (i : Nat) : wd (a :: l) (i + 1) = wd l i := rfl
theorem wd_1 (a b : ByteArray) (l : List ByteArray) : wd (a :: b :: l) 1 = b := rfl
theorem wd_2 (a b c : ByteArray) (l : List ByteArray) : wd (a :: b :: c :: l) 2 = c := rfl
theorem wd_3 (a b c d : ByteArray) (l : List ByteArray) : wd (a :: b :: c :: d :: l) 3 = d := rfl
theorem wd_4 (a b c d e : ByteArray) (l : List ByteArray) : wd (a :: b :: c :: d :: e :: l) 4 = e := rfl
theorem wd_5 (a b c d e f : ByteArray) (l : List ByteArray) : wd (a :: b :: c :: d :: e :: f :: l) 5 = f := rfl
/-- What a right column bears. -/
structure ColR (mark : Int) (c : Col) : Prop where
  name : nameB c.name.data.toList = true
  kind : c.kind = 1 ∨ c.kind = 2 ∨ c.kind = 3
  width : 0 ≤ c.width ∧ c.width ≤ 2000
  places : if c.kind = 2 then 0 ≤ c.places ∧ c.places ≤ 2000 else c.places = 0
  form : if c.kind = 3 then 0 ≤ c.form ∧ c.form ≤ 2000 else c.form = 0
  side : if mark = 0 ∧ c.kind ≠ 3 then 0 ≤ c.fill ∧ c.fill ≤ 255 else c.right = false ∧ c.fill = 0
theorem formW_bd {n : Int} (h : formW n ≠ 0) : 0 ≤ n ∧ n ≤ 2000 := by
  unfold formW at h
  split at h
  · omega
  · split at h
    · omega
    · split at h
      · omega
      · exact absurd rfl h
theorem col_right {mark : Int} {c : Col} {b : List Col} (h : colF mark c b = 0) : ColR mark c := by
  unfold colF at h
  split at h; · cases h
  rename_i h1
  split at h; · cases h
  split at h; · cases h
  rename_i h3
  split at h; · cases h
  rename_i h4
  split at h; · cases h
  rename_i h5
  split at h; · cases h
  rename_i h6
  split at h; · cases h
  rename_i h7
  have hk : c.kind = 1 ∨ c.kind = 2 ∨ c.kind = 3 := by omega
  have hi : idleB mark c = true := by simpa using h7
  unfold idleB at hi
  simp only [Bool.and_eq_true, Bool.or_eq_true, Bool.not_eq_true', decide_eq_true_eq, decide_eq_false_iff_not] at hi
  obtain ⟨⟨i1, i2⟩, i3⟩ := hi
  refine ⟨by simpa using h1, hk, by omega, ?_, ?_, ?_⟩
  · split
    · rename_i k; have : 0 ≤ c.places ∧ c.places ≤ 9 := Classical.byContradiction fun e => h5 ⟨k, e⟩
      omega
    · rename_i k; exact i1.resolve_left k
  · split
    · rename_i k; exact formW_bd (fun e => h6 ⟨k, e⟩)
    · rename_i k; exact i2.resolve_left k
  · split
    · rename_i k
      split at h
      · rename_i k2; exact absurd k.1 k2
      · split at h
        · cases h
        · rename_i k3
          by_cases h32 : c.fill = 32
          · omega
          · have : c.kind = 2 ∧ c.fill = 48 ∧ c.right = true := Classical.byContradiction fun e => k3 ⟨k.2, h32, e⟩
            omega
    · rename_i k
      rcases i3 with i3 | i3
      · exact absurd ⟨i3.2, i3.1⟩ k
      · exact i3
theorem kw_ok {k : Int} : WdOk (kwL k) := by
  unfold kwL
  split
  · exact ⟨by decide, by decide, by decide⟩
  · split
    · exact ⟨by decide, by decide, by decide⟩
    · exact ⟨by decide, by decide, by decide⟩
theorem sd_ok {r : Bool} : WdOk (sdL r) := by cases r <;> exact ⟨by decide, by decide, by decide⟩
theorem col_words {mark : Int} {c : Col} (h : ColR mark c) : WsOk (colT mark c) := by
  refine ⟨by simp [colT], fun p hp => ?_⟩
  unfold colT at hp
  simp only [List.mem_append, List.mem_cons, List.not_mem_nil, or_false] at hp
  rcases hp with (rfl | rfl | rfl) | hp | hp | hp
  · exact kw_ok
  · exact (name_ok h.name).1
  · exact (num_all h.width).2.2.1
  · unfold pT at hp
    have hp1 := h.places; have hp2 := h.form
    split at hp
    · rename_i k; rw [if_pos k] at hp1; obtain rfl := List.mem_singleton.1 hp; exact (num_all hp1).2.2.1
    · split at hp
      · rename_i k; rw [if_pos k] at hp2; obtain rfl := List.mem_singleton.1 hp; exact (num_all hp2).2.2.1
      · cases hp
  · unfold sT at hp
    have hs := h.side
    split at hp
    · rename_i k
      rw [if_pos k] at hs
      simp only [List.mem_cons, List.not_mem_nil, or_false] at hp
      rcases hp with rfl | rfl
      · exact sd_ok
      · exact (num_all (n := c.fill) (by omega)).2.2.1
    · cases hp
  · unfold nT at hp
    split at hp
    · obtain rfl := List.mem_singleton.1 hp; exact ⟨by decide, by decide, by decide⟩
    · cases hp
theorem bs_sd (r : Bool) : bs (sdL r) = if r = true then wRight else wLeft := by cases r <;> rfl
theorem col_back {mark : Int} {c : Col} (h : ColR mark c) : kindW (wd ((colT mark c).map bs) 0) = c.kind ∧ colOk mark c.kind ((colT mark c).map bs).tail = true ∧ colW mark c.kind ((colT mark c).map bs).tail = c := by
  obtain ⟨nm, kd, wi, pl, fo, rt, fi, ne⟩ := c
  obtain ⟨h1, h2, h3, h4, h5, h6⟩ := h
  simp only at h1 h2 h3 h4 h5 h6 ⊢
  obtain ⟨w1, w2, -⟩ := num_all h3
  have hn : bs nm.data.toList = nm := bs_self nm
  have hnd : bs wNeed.data.toList = wNeed := bs_self _
  have hlr : (wLeft = wRight) = False := eq_false (by decide)
  rcases h2 with rfl | rfl | rfl
  · have hk : kindW (bs (kwL 1)) = 1 := by decide
    simp only [show ((1 : Int) = 2) = False from eq_false (by decide), show ((1 : Int) = 3) = False from eq_false (by decide), if_false] at h4 h5
    subst h4; subst h5
    by_cases hm : mark = 0
    · rw [if_pos ⟨hm, by decide⟩] at h6
      obtain ⟨f1, f2, -⟩ := num_all (n := fi) (by omega)
      have f3 := num_y h6
      have f4 : fi % 256 = fi := by omega
      subst hm
      have hs : sK 0 1 = 2 := by decide
      cases ne <;> cases rt <;> simp [colT, pT, sT, nT, colOk, colW, hk, hs, pK, needB, wd_z, wd_1, wd_2, wd_3, wd_4, wd_5, w1, w2, f2, f3, f4, hn, hnd, bs_sd, hlr, wd]
    · rw [if_neg (fun k => hm k.1)] at h6
      obtain ⟨rfl, rfl⟩ := h6
      have hs : sK mark 1 = 0 := if_neg (fun k => hm k.1)
      cases ne <;> simp [colT, pT, sT, nT, colOk, colW, hk, hm, hs, pK, needB, wd_z, wd_1, wd_2, wd_3, wd_4, wd_5, w1, w2, hn, hnd, bs_sd, hlr, wd]
  · have hk : kindW (bs (kwL 2)) = 2 := by decide
    simp only [if_pos, show ((2 : Int) = 3) = False from eq_false (by decide), if_false] at h4 h5
    subst h5
    obtain ⟨p1, p2, -⟩ := num_all h4
    by_cases hm : mark = 0
    · rw [if_pos ⟨hm, by decide⟩] at h6
      obtain ⟨f1, f2, -⟩ := num_all (n := fi) (by omega)
      have f3 := num_y h6
      have f4 : fi % 256 = fi := by omega
      subst hm
      have hs : sK 0 2 = 2 := by decide
      cases ne <;> cases rt <;> simp [colT, pT, sT, nT, colOk, colW, hk, hs, pK, needB, wd_z, wd_1, wd_2, wd_3, wd_4, wd_5, w1, w2, p1, p2, f2, f3, f4, hn, hnd, bs_sd, hlr, wd]
    · rw [if_neg (fun k => hm k.1)] at h6
      obtain ⟨rfl, rfl⟩ := h6
      have hs : sK mark 2 = 0 := if_neg (fun k => hm k.1)
      cases ne <;> simp [colT, pT, sT, nT, colOk, colW, hk, hm, hs, pK, needB, wd_z, wd_1, wd_2, wd_3, wd_4, wd_5, w1, w2, p1, p2, hn, hnd, bs_sd, hlr, wd]
  · have hk : kindW (bs (kwL 3)) = 3 := by decide
    simp only [if_pos, show ((3 : Int) = 2) = False from eq_false (by decide), if_false] at h4 h5
    subst h4
    obtain ⟨p1, p2, -⟩ := num_all h5
    rw [if_neg (fun k => k.2 rfl)] at h6
    obtain ⟨rfl, rfl⟩ := h6
    have hs : sK mark 3 = 0 := if_neg (fun k => k.2 rfl)
    cases ne <;> simp [colT, pT, sT, nT, colOk, colW, hk, hs, pK, needB, wd_z, wd_1, wd_2, wd_3, wd_4, wd_5, w1, w2, p1, p2, hn, hnd, bs_sd, hlr, wd]
/-! ### Lines -/
theorem addCol_snoc : ∀ (ks : List RKd) (k : RKd) (c : Col), addCol (ks ++ [k]) c = ks ++ [{ k with fields := k.fields ++ [c] }]
  | [], k, c => rfl
  | [x], k, c => rfl
  | x :: y :: r, k, c => by
    have := addCol_snoc (y :: r) k c
    show addCol (x :: y :: (r ++ [k])) c = _
    unfold addCol
    rw [List.cons_append, List.cons_append] at this
    rw [this]; rfl
theorem line_col {m q : Int} {ks : List RKd} {k : RKd} {hd tl ct sm : ByteArray} {c : Col} (h : ColR m c) :
    lineF ⟨⟨m, q, ks ++ [k], hd, tl, ct, sm⟩, true, false⟩ (bs (jn 32 (colT m c))) = some ⟨⟨m, q, ks ++ [{ k with fields := k.fields ++ [c] }], hd, tl, ct, sm⟩, true, false⟩ := by
  obtain ⟨h1, h2, h3⟩ := col_back h
  rw [line_of (col_words h) _ rfl]
  have hk0 : kindW (wd ((colT m c).map bs) 0) ≠ 0 := by rw [h1]; rcases h.kind with k | k | k <;> rw [k] <;> decide
  unfold wordsF
  rw [if_neg (by simp), if_neg (fun e => hk0 (by rw [e]; decide)), if_neg (fun e => hk0 (by rw [e]; decide)), if_pos ⟨hk0, by simp, by rw [h1]; exact h2⟩, h1, h3, addCol_snoc]
theorem cols_lines {m q : Int} {ks : List RKd} {hd tl ct sm : ByteArray} (r : List (List UInt8)) : ∀ (cs : List Col) (k : RKd) (i : Int), (∀ c ∈ cs, ColR m c) →
    ∃ j, linesF true ⟨⟨m, q, ks ++ [k], hd, tl, ct, sm⟩, true, false⟩ i ((cs.map (colT m)).map (jn 32) ++ r) = linesF true ⟨⟨m, q, ks ++ [{ k with fields := k.fields ++ cs }], hd, tl, ct, sm⟩, true, false⟩ j r
  | [], k, i, _ => ⟨i, by simp⟩
  | c :: cs, k, i, h => by
    obtain ⟨j, hj⟩ := cols_lines (ks := ks) (q := q) (hd := hd) (tl := tl) (ct := ct) (sm := sm) r cs { k with fields := k.fields ++ [c] } (i + 1) (fun x hx => h x (List.mem_cons_of_mem _ hx))
    refine ⟨j, ?_⟩
    rw [List.map_cons, List.map_cons, List.cons_append, lines_cons (line_col (h c (by simp))), hj]
    simp
/-- What a right kind bears. -/
structure KndR (mark : Int) (k : RKd) : Prop where
  tag : WdOk k.tag.data.toList ∧ k.tag ≠ ⟨#[45]⟩
  most : 0 ≤ k.most ∧ k.most ≤ 2000
  under : OrOk k.under
  cols : ∀ c ∈ k.fields, ColR mark c
theorem line_kind {m q : Int} {ks : List RKd} {k : RKd} {hd tl ct sm : ByteArray} (h : KndR m k) :
    lineF ⟨⟨m, q, ks, hd, tl, ct, sm⟩, true, false⟩ (bs (jn 32 (kindT k))) = some ⟨⟨m, q, ks ++ [{ k with fields := [] }], hd, tl, ct, sm⟩, true, false⟩ := by
  obtain ⟨n1, n2, n3, -⟩ := num_all h.most
  rw [line_of (ws := kindT k) ⟨by simp [kindT], fun p hp => by
    unfold kindT at hp
    simp only [List.mem_cons, List.not_mem_nil, or_false] at hp
    rcases hp with rfl | rfl | rfl | rfl
    · exact ⟨by decide, by decide, by decide⟩
    · exact h.tag.1
    · exact n3
    · exact dsh_ok h.under⟩ _ rfl]
  have e : (kindT k).map bs = [wKind, k.tag, bs (Lib.itoa k.most), bs (dshL k.under)] := by
    simp [kindT, bs_self]
  rw [e]
  unfold wordsF
  rw [if_neg (by simp), if_pos (wd_z _ _), if_pos ⟨rfl, n1⟩]
  simp only [List.tail_cons, wd_z, wd_1, wd_2, n2, dsh_back h.under]
theorem kinds_lines {m q : Int} {hd tl ct sm : ByteArray} (r : List (List UInt8)) : ∀ (ks2 ks : List RKd) (i : Int), (∀ k ∈ ks2, KndR m k) →
    ∃ j, linesF true ⟨⟨m, q, ks, hd, tl, ct, sm⟩, true, false⟩ i ((kdsT m ks2).map (jn 32) ++ r) = linesF true ⟨⟨m, q, ks ++ ks2, hd, tl, ct, sm⟩, true, false⟩ j r
  | [], ks, i, _ => ⟨i, by simp [kdsT]⟩
  | k :: ks2, ks, i, h => by
    have hk := h k (by simp)
    obtain ⟨j1, h1⟩ := cols_lines (m := m) (q := q) (ks := ks) (hd := hd) (tl := tl) (ct := ct) (sm := sm) ((kdsT m ks2).map (jn 32) ++ r) k.fields { k with fields := [] } (i + 1) hk.cols
    obtain ⟨j2, h2⟩ := kinds_lines (m := m) (q := q) (hd := hd) (tl := tl) (ct := ct) (sm := sm) r ks2 (ks ++ [k]) j1 (fun x hx => h x (List.mem_cons_of_mem _ hx))
    refine ⟨j2, ?_⟩
    have e : (kdsT m (k :: ks2)).map (jn 32) ++ r = jn 32 (kindT k) :: ((k.fields.map (colT m)).map (jn 32) ++ ((kdsT m ks2).map (jn 32) ++ r)) := by
      unfold kdsT
      simp
    rw [e, lines_cons (line_kind hk), h1]
    simp only [List.nil_append]
    rw [show ({ k with fields := k.fields } : RKd) = k from rfl, h2]
    simp
/-- What a right format bears. -/
structure FmtR (f : Fmt) : Prop where
  mark : 0 ≤ f.mark ∧ f.mark ≤ 255
  quote : 0 ≤ f.quote ∧ f.quote ≤ 255
  zero : f.mark = 0 → f.quote = 0
  kinds : ∀ k ∈ f.kinds, KndR f.mark k
  head : OrOk f.head
  tail : OrOk f.tail
  count : OrOk f.count
  sum : OrOk f.sum
theorem head_words {f : Fmt} (h : FmtR f) : WsOk (headT f) := by
  refine ⟨by unfold headT; split <;> simp, fun p hp => ?_⟩
  unfold headT at hp
  split at hp
  · obtain rfl := List.mem_singleton.1 hp; exact ⟨by decide, by decide, by decide⟩
  · simp only [List.mem_cons, List.not_mem_nil, or_false] at hp
    have h1 := h.mark; have h2 := h.quote
    rcases hp with rfl | rfl | rfl
    · exact ⟨by decide, by decide, by decide⟩
    · exact (num_all (n := f.mark) (by omega)).2.2.1
    · exact (num_all (n := f.quote) (by omega)).2.2.1
theorem line_head {f : Fmt} (h : FmtR f) : lineF st0 (bs (jn 32 (headT f))) = some ⟨⟨f.mark, f.quote, [], eS, eS, eS, eS⟩, true, false⟩ := by
  rw [line_of (head_words h) _ rfl]
  have h1 := h.mark; have h2 := h.quote; have h3 := h.zero
  unfold wordsF
  rw [if_pos (show st0.begun = false from rfl)]
  by_cases hm : f.mark = 0
  · have e : (headT f).map bs = [wFixed] := by unfold headT; rw [if_pos hm]; simp [bs_self]
    rw [e, hm, h3 hm]
    rfl
  · have e : (headT f).map bs = [wMarked, bs (Lib.itoa f.mark), bs (Lib.itoa f.quote)] := by unfold headT; rw [if_neg hm]; simp [bs_self]
    obtain ⟨-, n1, -⟩ := num_all (n := f.mark) (by omega)
    obtain ⟨-, n2, -⟩ := num_all (n := f.quote) (by omega)
    rw [e]
    unfold frstF
    simp only [List.tail_cons, wd_z, wd_1, n1, n2]
    rw [if_neg (by decide), if_pos trivial, if_pos ⟨rfl, num_y h1, num_y h2, hm⟩]
    rfl
theorem ends_words {f : Fmt} (h : FmtR f) : WsOk (endsT f) := by
  refine ⟨by simp [endsT], fun p hp => ?_⟩
  unfold endsT at hp
  simp only [List.mem_cons, List.not_mem_nil, or_false] at hp
  rcases hp with rfl | rfl | rfl | rfl | rfl
  · exact ⟨by decide, by decide, by decide⟩
  · exact dsh_ok h.head
  · exact dsh_ok h.tail
  · exact dsh_ok h.count
  · exact dsh_ok h.sum
theorem line_ends {f : Fmt} (h : FmtR f) : lineF ⟨⟨f.mark, f.quote, f.kinds, eS, eS, eS, eS⟩, true, false⟩ (bs (jn 32 (endsT f))) = some ⟨f, true, true⟩ := by
  rw [line_of (ends_words h) _ rfl]
  have e : (endsT f).map bs = [wEnds, bs (dshL f.head), bs (dshL f.tail), bs (dshL f.count), bs (dshL f.sum)] := by simp [endsT, bs_self]
  rw [e]
  unfold wordsF
  rw [if_neg (by simp), if_neg (by rw [wd_z]; decide), if_pos (wd_z _ _), if_pos (by rfl)]
  simp only [List.tail_cons, wd_z, wd_1, wd_2, wd_3, dsh_back h.head, dsh_back h.tail, dsh_back h.count, dsh_back h.sum]
theorem kind_words {m : Int} {k : RKd} (h : KndR m k) : WsOk (kindT k) := by
  refine ⟨by simp [kindT], fun p hp => ?_⟩
  unfold kindT at hp
  simp only [List.mem_cons, List.not_mem_nil, or_false] at hp
  rcases hp with rfl | rfl | rfl | rfl
  · exact ⟨by decide, by decide, by decide⟩
  · exact h.tag.1
  · exact (num_all h.most).2.2.1
  · exact dsh_ok h.under
theorem text_words {f : Fmt} (h : FmtR f) : ∀ ws ∈ linesT f, WsOk ws := by
  intro ws hw
  unfold linesT at hw
  simp only [List.mem_cons, List.mem_append, List.not_mem_nil, or_false] at hw
  rcases hw with rfl | hw | rfl
  · exact head_words h
  · unfold kdsT at hw
    obtain ⟨k, hk, hw⟩ := List.mem_flatMap.1 hw
    rcases List.mem_cons.1 hw with rfl | hw
    · exact kind_words (h.kinds k hk)
    · obtain ⟨c, hc, rfl⟩ := List.mem_map.1 hw
      exact col_words ((h.kinds k hk).cols c hc)
  · exact ends_words h
theorem text_back {f : Fmt} (h : FmtR f) (hc : checkF f = 0) (hs : (textL f).length ≤ 500000) : readF (bs (textL f)) = (f, 0, 0) := by
  obtain ⟨l1, l2⟩ := lns_text (linesT f) (text_words h)
  have e : linesF true st0 0 ((linesT f).map (jn 32)) = .inl ⟨f, true, true⟩ := by
    have e1 : (linesT f).map (jn 32) = jn 32 (headT f) :: ((kdsT f.mark f.kinds).map (jn 32) ++ [jn 32 (endsT f)]) := by unfold linesT; simp
    obtain ⟨j, hj⟩ := kinds_lines (m := f.mark) (q := f.quote) (hd := eS) (tl := eS) (ct := eS) (sm := eS) [jn 32 (endsT f)] f.kinds [] (0 + 1) h.kinds
    rw [e1, lines_cons (line_head h), hj, List.nil_append, lines_cons (line_ends h)]
    rfl
  unfold readF
  rw [bs_size, if_neg (by omega), bs_toList]
  unfold textL
  rw [l1, l2, e]
  simp only
  rw [if_neg (by decide), if_neg (by rw [hc]; decide)]
end Go.Proofs.YtfgnollclmimnaaGreatDoor

namespace Go.Proofs.YtfgnollclmimnaaGreatDoor
open Nmb Work
set_option linter.unusedVariables false
set_option linter.unusedSimpArgs false

theorem ix_mem {α : Type} {q : α → Bool} {l : List α} (h : ¬ ixF q l < 0) : ∃ k, ∃ hk : k < l.length, ixF q l = (k : Int) ∧ q l[k] = true := by
  rcases ixF_spec q l with ⟨h1, -⟩ | ⟨k, hk, h1, h2, -⟩
  · rw [h1] at h; exact absurd (by decide) h
  · exact ⟨k, hk, h1, h2⟩
theorem or_tag {s : ByteArray} {ks : List RKd} (hk : ∀ k ∈ ks, (WdOk k.tag.data.toList ∧ k.tag ≠ ⟨#[45]⟩) ∧ k.tag.size ≤ 6) (h : s = eS ∨ ∃ k ∈ ks, k.tag = s) : OrOk s ∧ s.size ≤ 40 := by
  rcases h with rfl | ⟨k, hm, rfl⟩
  · exact ⟨.inl rfl, by decide⟩
  · obtain ⟨h1, h2⟩ := hk k hm
    exact ⟨.inr h1, by omega⟩
/-- Sizes of a right format. -/
structure FmtZ (f : Fmt) : Prop where
  kinds : f.kinds.length ≤ 30
  each : ∀ k ∈ f.kinds, k.tag.size ≤ 40 ∧ k.under.size ≤ 40 ∧ k.fields.length ≤ 50
  head : f.head.size ≤ 40
  tail : f.tail.size ≤ 40
  count : f.count.size ≤ 40
  sum : f.sum.size ≤ 40
theorem kind_zero {m : Int} {ks : List RKd} {i : Nat} (h : kindF m ks i = 0) : ((WdOk (kA ks i).tag.data.toList ∧ (kA ks i).tag ≠ ⟨#[45]⟩) ∧ (kA ks i).tag.size ≤ 6) ∧ (kA ks i).fields.length ≤ 50 ∧ (∀ c ∈ (kA ks i).fields, ColR m c) ∧ (0 ≤ (kA ks i).most ∧ (kA ks i).most ≤ 2000) ∧ ((kA ks i).under = eS ∨ ∃ k ∈ ks.take i, k.tag = (kA ks i).under) := by
  unfold kindF at h
  split at h; · cases h
  rename_i h1
  split at h; · cases h
  split at h; · cases h
  split at h; · cases h
  rename_i h4
  split at h
  · rename_i h5; exact absurd h h5
  rename_i h5
  split at h; · cases h
  rename_i h6
  split at h; · cases h
  rename_i h7
  have ht : 1 ≤ (kA ks i).tag.size ∧ (kA ks i).tag.size ≤ 6 := Classical.byContradiction fun e => h1 (.inl e)
  have hl : tagL (kA ks i).tag.data.toList = true := by
    cases hq : tagL (kA ks i).tag.data.toList with
    | true => rfl
    | false => exact absurd (.inr hq) h1
  refine ⟨⟨tag_ok ht hl, ht.2⟩, by omega, fun c hc => ?_, by omega, ?_⟩
  · have h5 : colsF m (kA ks i).fields = 0 := Classical.byContradiction h5
    unfold colsF at h5
    obtain ⟨j, hj, rfl⟩ := List.getElem_of_mem hc
    have := fstF_zero h5 j hj
    rw [← cA_get hj] at this
    exact col_right this
  · by_cases hu : (kA ks i).under = eS
    · exact .inl hu
    · right
      have : (ks.take i).any (tagIs (kA ks i).under) = true := by
        cases hq : (ks.take i).any (tagIs (kA ks i).under) with
        | true => rfl
        | false => exact absurd ⟨hu, hq⟩ h7
      obtain ⟨k, hk, h8⟩ := List.any_eq_true.1 this
      exact ⟨k, hk, of_decide_eq_true h8⟩
theorem knd_in {ks : List RKd} {t : ByteArray} : kndF ks t = kind0 ∨ kndF ks t ∈ ks := by
  unfold kndF
  split
  · exact .inl rfl
  · rename_i h
    obtain ⟨k, hk, h1, -⟩ := ix_mem h
    right
    rw [h1]
    show kA ks k ∈ ks
    rw [← kA_get hk]
    exact List.getElem_mem _
theorem or_name {ks : List RKd} {m : Int} {t s : ByteArray} {b : Bool} (hk : ∀ k ∈ ks, ∀ c ∈ k.fields, ColR m c) (h : s = eS ∨ tailF ks t s b = false) : OrOk s ∧ s.size ≤ 40 := by
  rcases h with rfl | h
  · exact ⟨.inl rfl, by decide⟩
  · unfold tailF at h
    rw [Bool.or_eq_false_iff] at h
    obtain ⟨k, hk1, -, h2⟩ := ix_mem (of_decide_eq_false h.1)
    have h3 : ((kndF ks t).fields[k]).name = s := of_decide_eq_true h2
    have hm : (kndF ks t).fields[k] ∈ (kndF ks t).fields := List.getElem_mem _
    rcases knd_in (ks := ks) (t := t) with h4 | h4
    · rw [h4] at hk1; exact absurd hk1 (Nat.not_lt_zero _)
    · have h5 := name_ok (hk _ h4 _ hm).name
      rw [h3] at h5
      exact ⟨.inr ⟨h5.1, h5.2.2⟩, h5.2.1⟩
theorem fmt_right {f : Fmt} (h : checkF f = 0) (hm : 0 ≤ f.mark ∧ f.mark ≤ 255) (hq : 0 ≤ f.quote ∧ f.quote ≤ 255) : FmtR f ∧ FmtZ f := by
  unfold checkF at h
  split at h
  · rename_i h1; exact absurd h h1
  rename_i h1
  split at h; · cases h
  split at h; · cases h
  rename_i h3
  split at h
  · rename_i h4; exact absurd h h4
  rename_i h4
  have h1 : marksF f.mark f.quote = 0 := Classical.byContradiction h1
  have h4 : fstF (kindF f.mark f.kinds) f.kinds.length = 0 := Classical.byContradiction h4
  have hz := fstF_zero h4
  have hall : ∀ k ∈ f.kinds, ∃ i, i < f.kinds.length ∧ k = kA f.kinds i := fun k hk => by
    obtain ⟨i, hi, rfl⟩ := List.getElem_of_mem hk
    exact ⟨i, hi, kA_get hi⟩
  have htag : ∀ k ∈ f.kinds, (WdOk k.tag.data.toList ∧ k.tag ≠ ⟨#[45]⟩) ∧ k.tag.size ≤ 6 := fun k hk => by
    obtain ⟨i, hi, rfl⟩ := hall k hk
    exact (kind_zero (hz i hi)).1
  have hcol : ∀ k ∈ f.kinds, ∀ c ∈ k.fields, ColR f.mark c := fun k hk => by
    obtain ⟨i, hi, rfl⟩ := hall k hk
    exact (kind_zero (hz i hi)).2.2.1
  have hund : ∀ k ∈ f.kinds, OrOk k.under ∧ k.under.size ≤ 40 := fun k hk => by
    obtain ⟨i, hi, rfl⟩ := hall k hk
    refine or_tag htag ((kind_zero (hz i hi)).2.2.2.2.imp id ?_)
    rintro ⟨x, hx, e⟩
    exact ⟨x, List.mem_of_mem_take hx, e⟩
  unfold endsF at h
  split at h; · cases h
  rename_i e1
  split at h; · cases h
  rename_i e2
  split at h; · cases h
  split at h; · cases h
  rename_i e4
  split at h; · cases h
  rename_i e5
  split at h; · cases h
  rename_i e6
  have ofix : ∀ s : ByteArray, ¬ (s ≠ ⟨#[]⟩ ∧ ixF (tagIs s) f.kinds < 0) → s = eS ∨ ∃ k ∈ f.kinds, k.tag = s := fun s hs => by
    by_cases h0 : s = eS
    · exact .inl h0
    · right
      obtain ⟨k, hk, -, h2⟩ := ix_mem (q := tagIs s) (l := f.kinds) (fun e => hs ⟨h0, e⟩)
      exact ⟨_, List.getElem_mem hk, of_decide_eq_true h2⟩
  have o1 := or_tag htag (ofix _ e1)
  have o2 := or_tag htag (ofix _ e2)
  have o3 : OrOk f.count ∧ f.count.size ≤ 40 := or_name (t := f.tail) (b := false) hcol (by
    by_cases h0 : f.count = eS
    · exact .inl h0
    · right
      cases hq : tailF f.kinds f.tail f.count false with
      | false => rfl
      | true => exact absurd ⟨h0, hq⟩ e5)
  have o4 : OrOk f.sum ∧ f.sum.size ≤ 40 := or_name (t := f.tail) (b := true) hcol (by
    by_cases h0 : f.sum = eS
    · exact .inl h0
    · right
      cases hq : tailF f.kinds f.tail f.sum true with
      | false => rfl
      | true => exact absurd ⟨h0, hq⟩ e6)
  refine ⟨⟨hm, hq, fun h0 => ?_, fun k hk => ?_, o1.1, o2.1, o3.1, o4.1⟩, ⟨by omega, fun k hk => ?_, o1.2, o2.2, o3.2, o4.2⟩⟩
  · unfold marksF at h1
    split at h1; · cases h1
    split at h1; · cases h1
    rename_i h8
    exact Classical.byContradiction fun e => h8 ⟨h0, e⟩
  · obtain ⟨i, hi, e⟩ := hall k hk
    have := kind_zero (hz i hi)
    rw [← e] at this
    exact ⟨this.1.1, this.2.2.2.1, (hund k hk).1, this.2.2.1⟩
  · obtain ⟨i, hi, e⟩ := hall k hk
    have := kind_zero (hz i hi)
    rw [← e] at this
    exact ⟨by have := this.1.2; omega, (hund k hk).2, this.2.1⟩

/-! ### Sizes -/
theorem jn_len (g : UInt8) : ∀ {ps : List (List UInt8)}, ps ≠ [] → (jn g ps).length + 1 = (ps.map fun p => p.length + 1).sum
  | [], h => absurd rfl h
  | [p], _ => by simp [jn]
  | p :: q :: ps, _ => by
    have := jn_len g (ps := q :: ps) (by simp)
    rw [jn_cons (by simp), List.map_cons, List.sum_cons, ← this]
    simp; omega
theorem ln_len {ws : List (List UInt8)} (h : ws ≠ []) : (lnT ws).length = (ws.map fun p => p.length + 1).sum := by
  rw [← jn_len 32 h]; unfold lnT; simp
theorem dsh_len {s : ByteArray} (h : s.size ≤ 40) : (dshL s).length ≤ 40 := by
  unfold dshL
  split
  · decide
  · have : s.data.toList.length = s.size := by simp
    omega
theorem kw_len {k : Int} : (kwL k).length ≤ 6 := by
  unfold kwL
  split
  · decide
  · split <;> decide
theorem sd_len {r : Bool} : (sdL r).length ≤ 5 := by cases r <;> decide
theorem col_len {m : Int} {c : Col} (h : ColR m c) : (lnT (colT m c)).length ≤ 200 := by
  rw [ln_len (by simp [colT])]
  have h1 := (name_ok h.name).2.1
  have hl : c.name.data.toList.length = c.name.size := by simp
  have h2 := (num_all h.width).2.2.2
  have h3 := kw_len (k := c.kind)
  have hp : ((pT c).map fun p => p.length + 1).sum ≤ 5 := by
    have hp1 := h.places; have hp2 := h.form
    unfold pT
    split
    · rename_i k; rw [if_pos k] at hp1; have := (num_all hp1).2.2.2; simp; omega
    · split
      · rename_i k; rw [if_pos k] at hp2; have := (num_all hp2).2.2.2; simp; omega
      · simp
  have hs : ((sT m c).map fun p => p.length + 1).sum ≤ 11 := by
    have hs := h.side
    unfold sT
    split
    · rename_i k
      rw [if_pos k] at hs
      have := (num_all (n := c.fill) (by omega)).2.2.2
      have := sd_len (r := c.right)
      simp; omega
    · simp
  have hn : ((nT c).map fun p => p.length + 1).sum ≤ 5 := by
    unfold nT
    split
    · decide
    · simp
  unfold colT
  simp only [List.map_append, List.sum_append, List.map_cons, List.map_nil, List.sum_cons, List.sum_nil]
  omega
theorem kind_len {m : Int} {k : RKd} (h : KndR m k) (hz : k.tag.size ≤ 40 ∧ k.under.size ≤ 40) : (lnT (kindT k)).length ≤ 200 := by
  rw [ln_len (by simp [kindT])]
  have h1 := (num_all h.most).2.2.2
  have h2 := dsh_len hz.2
  have hl : k.tag.data.toList.length = k.tag.size := by simp
  have hw : wKind.data.toList.length = 4 := by decide
  unfold kindT
  simp only [List.map_cons, List.map_nil, List.sum_cons, List.sum_nil]
  omega
theorem flat_len {α : Type} (g : α → List UInt8) (b : Nat) : ∀ l : List α, (∀ x ∈ l, (g x).length ≤ b) → (l.flatMap g).length ≤ l.length * b
  | [], _ => by simp
  | x :: l, h => by
    have h1 := h x (by simp)
    have h2 := flat_len g b l (fun y hy => h y (List.mem_cons_of_mem _ hy))
    rw [List.flatMap_cons, List.length_append, List.length_cons, Nat.add_mul]
    omega
theorem kds_cnt (m : Int) : ∀ ks : List RKd, (∀ k ∈ ks, k.fields.length ≤ 50) → (kdsT m ks).length ≤ ks.length * 51
  | [], _ => by simp [kdsT]
  | k :: ks, h => by
    have h1 := h k (by simp)
    have h2 := kds_cnt m ks (fun y hy => h y (List.mem_cons_of_mem _ hy))
    unfold kdsT at h2 ⊢
    rw [List.flatMap_cons, List.length_append, List.length_cons, List.length_cons, List.length_map, Nat.add_mul]
    omega
theorem text_len {f : Fmt} (h : FmtR f) (hz : FmtZ f) : (textL f).length ≤ 306400 := by
  unfold textL
  have h1 : ∀ ws ∈ linesT f, (lnT ws).length ≤ 200 := by
    intro ws hw
    unfold linesT at hw
    simp only [List.mem_cons, List.mem_append, List.not_mem_nil, or_false] at hw
    rcases hw with rfl | hw | rfl
    · rw [ln_len (head_words h).1]
      unfold headT
      have h2 := h.mark; have h3 := h.quote
      split
      · decide
      · have := (num_all (n := f.mark) (by omega)).2.2.2
        have := (num_all (n := f.quote) (by omega)).2.2.2
        have hw : wMarked.data.toList.length = 6 := by decide
        simp only [List.map_cons, List.map_nil, List.sum_cons, List.sum_nil]
        omega
    · unfold kdsT at hw
      obtain ⟨k, hk, hw⟩ := List.mem_flatMap.1 hw
      rcases List.mem_cons.1 hw with rfl | hw
      · exact kind_len (h.kinds k hk) ⟨(hz.each k hk).1, (hz.each k hk).2.1⟩
      · obtain ⟨c, hc, rfl⟩ := List.mem_map.1 hw
        exact col_len ((h.kinds k hk).cols c hc)
    · rw [ln_len (ends_words h).1]
      unfold endsT
      have z1 := dsh_len hz.head; have z2 := dsh_len hz.tail; have z3 := dsh_len hz.count; have z4 := dsh_len hz.sum
      have hw : wEnds.data.toList.length = 4 := by decide
      simp only [List.map_cons, List.map_nil, List.sum_cons, List.sum_nil]
      omega
  have h2 := flat_len lnT 200 _ h1
  have h3 := kds_cnt f.mark f.kinds (fun k hk => (hz.each k hk).2.2)
  have h4 := hz.kinds
  have h5 : (linesT f).length = (kdsT f.mark f.kinds).length + 2 := by unfold linesT; simp
  have h6 : (linesT f).length ≤ 1532 := by omega
  have := Nat.mul_le_mul_right 200 h6
  omega
theorem text_read {f : Fmt} (h : checkF f = 0) (hm : 0 ≤ f.mark ∧ f.mark ≤ 255) (hq : 0 ≤ f.quote ∧ f.quote ≤ 255) : readF (bs (textL f)) = (f, 0, 0) := by
  obtain ⟨h1, h2⟩ := fmt_right h hm hq
  have := text_len h1 h2
  exact text_back h1 h (by omega)
end Go.Proofs.YtfgnollclmimnaaGreatDoor
