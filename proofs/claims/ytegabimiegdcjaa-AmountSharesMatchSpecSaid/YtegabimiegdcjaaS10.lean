
/- The walk of package amount: Shares. -/
import Derived.Test.YtegabimiegdcjaaS8
import Derived.Test.YtegabimiegdcjaaS9
import Derived.Test.YtegabimiegdcjaaRX
import Derived.Test.YtegabimiegdcjaaR1
import Derived.Test.YtegabimiegdcjaaN1
import Derived.Deep.DeepAppendWide
namespace Go.Proofs.Ytegabimiegdcjaa
open Go.RowKit Limb Work Stab
set_option linter.unusedVariables false
set_option linter.unusedSimpArgs false

theorem infoSh : (Try.prog.info? 78).map (fun i => (i.zero, i.size, i.bytes)) = some (some (.agg #[.int .i64 0, .int .i64 0, .bool false, .slice none 0 0]), 4, 48) := by kernel_rfl
theorem infoDec : (Try.prog.info? 23).map (fun i => (i.zero, i.size, i.bytes)) = some (some (.agg #[.int .i64 0, .int .i64 0]), 2, 16) := by kernel_rfl
theorem pshares_bad (u p : Int) (ws : List Int) (A : Option Addr) (n c : Nat) (w : World) (h : decB u p = false) :
    Calls Try.prog 20 #[.agg #[.int .i64 u, .int .i64 p], .slice A n c] w fun e w' => e = .returned (.tuple #[.slice none 0 0, .int .i64 1]) ∧ Below w.heap.size w w' := by
  have H := Lib.hid h
  clear h
  go_enter Try.func20, Try.ntmps20
  go_wp2_with fail
  refine (chk_bad _ _ _ H.out).mono ?_
  rintro e w1 ⟨rfl, hb1⟩
  have hbel := below_then hb1 (B := w.heap.size) (w := w) (by go_grown) (by simp)
  go_wp2
  go_ret2
  exact ⟨rfl, hbel⟩
theorem pshares_w (u p : Int) (ws : List Int) (A : Option Addr) (n c : Nat) (w : World) (h : decB u p = true) (hI : Ints w A n ws) (hn : n ≤ 9223372036854775807) (hf : wtF ws ≠ 0) :
    Calls Try.prog 20 #[.agg #[.int .i64 u, .int .i64 p], .slice A n c] w fun e w' => e = .returned (.tuple #[.slice none 0 0, .int .i64 (wtF ws)]) ∧ Below w.heap.size w w' := by
  have H := Lib.hid h
  obtain ⟨F, hF⟩ : ∃ F, wtF ws = F := ⟨_, rfl⟩
  rw [hF] at hf ⊢
  have HF := Lib.hid hF
  have hf' : (F != 0) = true := by simpa using hf
  clear h hF hf
  go_enter Try.func20, Try.ntmps20
  go_wp2_with fail
  refine (chk_ok _ _ _ H.out).mono ?_
  rintro e w1 ⟨rfl, hb1⟩
  have hbel := below_then hb1 (B := w.heap.size) (w := w) (by go_grown) (by simp)
  go_wp2_with fail
  refine (weights_c ws A n c _ (hI.below hbel) hn).mono ?_
  rintro e w2 ⟨rfl, rfl⟩
  rw [HF.out]
  go_wp2
  go_ret2
  exact ⟨rfl, hbel⟩

/-- The whole part and the rest of a share. -/
def shQ (U S : Nat) (ws : List Int) (j : Nat) : Nat := U * (hol ws j).toNat / S
def shR (U S : Nat) (ws : List Int) (j : Nat) : Nat := U * (hol ws j).toNat % S
def sumQ (U S : Nat) (ws : List Int) : Nat → Nat
  | 0 => 0
  | j + 1 => sumQ U S ws j + shQ U S ws j
theorem w_le {ws : List Int} : ∀ k, k ≤ ws.length → okW ws k → ∀ j, j < k → hol ws j ≤ sumW ws k := by
  intro k
  induction k with
  | zero => intro _ _ j hj; omega
  | succ k ih =>
    intro hk hok j hj
    rw [sumW_step (by omega)]
    have h1 := hok k (by omega)
    rcases Nat.lt_or_ge j k with h | h
    · have := ih (by omega) (fun p hp => hok p (by omega)) j h; omega
    · have : j = k := by omega
      subst this
      have := (sumW_rng j (by omega) (fun p hp => hok p (by omega))).1
      omega
theorem shQ_le {U S : Nat} {ws : List Int} {j : Nat} (h : (hol ws j).toNat ≤ S) (hS : 0 < S) : shQ U S ws j ≤ U := by
  unfold shQ
  exact Nat.div_le_of_le_mul (by rw [Nat.mul_comm S U]; exact Nat.mul_le_mul_left U h)
/-- All together: the whole parts and the rests. -/
theorem sum_parts {U S : Nat} {ws : List Int} : ∀ k, k ≤ ws.length → okW ws k → sumQ U S ws k * S + ((List.range k).map (shR U S ws)).sum = U * (sumW ws k).toNat := by
  intro k
  induction k with
  | zero => intro _ _; simp [sumQ, sumW_zero]
  | succ k ih =>
    intro hk hok
    have h1 := ih (by omega) (fun p hp => hok p (by omega))
    have h2 := (sumW_rng k (by omega) (fun p hp => hok p (by omega))).1
    have h3 := hok k (by omega)
    rw [sumW_step (by omega), List.range_succ, List.map_append, List.sum_append]
    have e1 : (sumW ws k + hol ws k).toNat = (sumW ws k).toNat + (hol ws k).toNat := by omega
    have e2 := Nat.div_add_mod (U * (hol ws k).toNat) S
    rw [e1, Nat.mul_add, ← h1]
    show (sumQ U S ws k + shQ U S ws k) * S + (((List.range k).map (shR U S ws)).sum + (shR U S ws k + 0)) = _
    unfold shQ shR
    rw [Nat.add_mul, Nat.mul_comm (U * (hol ws k).toNat / S) S]
    omega

/-- What Shares comes to: the units at the place x of the order. -/
def outV (u : Int) (ws : List Int) (f : Nat → Nat) (x : Nat) : Int :=
  let v : Int := ((shQ u.natAbs (sumW ws ws.length).toNat ws (f x) + if x < u.natAbs - sumQ u.natAbs (sumW ws ws.length).toNat ws ws.length then 1 else 0 : Nat) : Int)
  if u < 0 then -v else v
def ShEnd (u p : Int) (ws : List Int) (w : World) (e : Ending) (w' : World) : Prop :=
  ∃ (f : Nat → Nat) (b : Nat), e = .returned (.tuple #[.slice (some ⟨b, 0, none⟩) ws.length ws.length, .int .i64 0]) ∧ Bij ws.length f ∧ Srt (shR u.natAbs (sumW ws ws.length).toNat ws) f 0 ws.length ∧ b < w'.heap.size ∧
    (∀ x, x < ws.length → w'.cell? ⟨b, f x * 2, none⟩ = some (.int .i64 (outV u ws f x)) ∧ w'.cell? ⟨b, f x * 2 + 1, none⟩ = some (.int .i64 p)) ∧ Below w.heap.size w w'

theorem sumQ_le {U S : Nat} {ws : List Int} (hS : 0 < S) (k : Nat) (hk : k ≤ ws.length) (hok : okW ws k) (hs : (sumW ws k).toNat ≤ S) : sumQ U S ws k ≤ U := by
  have h := sum_parts (U := U) (S := S) k hk hok
  have h2 : U * (sumW ws k).toNat ≤ U * S := Nat.mul_le_mul_left U hs
  exact Nat.le_of_mul_le_mul_right (Nat.le_trans (Nat.le_trans (Nat.le_add_right _ _) (Nat.le_of_eq h)) h2) hS
theorem sumW_mono {ws : List Int} {j k : Nat} (hjk : j ≤ k) (hk : k ≤ ws.length) (hok : okW ws k) : sumW ws j ≤ sumW ws k := by
  induction k with
  | zero => have : j = 0 := by omega
            subst this; exact Int.le_refl _
  | succ k ih =>
    rcases Nat.lt_or_ge j (k + 1) with h | h
    · rw [sumW_step (by omega)]
      have h1 := ih (by omega) (by omega) (fun p hp => hok p (by omega))
      have h2 := hok k (by omega)
      omega
    · have : j = k + 1 := by omega
      subst this; exact Int.le_refl _

/-- The cells of the first shares. -/
def shRow (q : Nat → Int) (sg : Nat → Bool) (A : Nat → Option Addr) (m c : Nat → Nat) (i : Nat) : List Value :=
  (List.range i).flatMap fun (j : Nat) => [.int .i64 (j : Int), .int .i64 (q j), .bool (sg j), .slice (A j) (m j) (c j)]
def upd {α : Type} (f : Nat → α) (i : Nat) (v : α) (x : Nat) : α := if x = i then v else f x
theorem upd_same {α : Type} (f : Nat → α) (i : Nat) (v : α) : upd f i v i = v := if_pos rfl
theorem upd_other {α : Type} (f : Nat → α) {i x : Nat} (v : α) (h : x ≠ i) : upd f i v x = f x := if_neg h
theorem flatMap_congr {α β : Type} {l : List α} {f g : α → List β} (h : ∀ x ∈ l, f x = g x) : l.flatMap f = l.flatMap g := by
  induction l with
  | nil => rfl
  | cons x l ih => rw [List.flatMap_cons, List.flatMap_cons, h x (List.mem_cons_self ..), ih fun y hy => h y (List.mem_cons_of_mem _ hy)]
theorem shRow_succ (q : Nat → Int) (sg : Nat → Bool) (A : Nat → Option Addr) (m c : Nat → Nat) (i : Nat) (s : Bool) (B : Option Addr) (k d : Nat) :
    shRow q (upd sg i s) (upd A i B) (upd m i k) (upd c i d) (i + 1) = shRow q sg A m c i ++ [.int .i64 (i : Int), .int .i64 (q i), .bool s, .slice B k d] := by
  unfold shRow
  rw [List.range_succ, List.flatMap_append, List.flatMap_cons, List.flatMap_nil, upd_same, upd_same, upd_same, upd_same, List.append_nil]
  congr 1
  refine flatMap_congr fun x hx => ?_
  have hx' : x ≠ i := by have := List.mem_range.1 hx; omega
  rw [upd_other _ _ hx', upd_other _ _ hx', upd_other _ _ hx', upd_other _ _ hx']
theorem shRow_len (q : Nat → Int) (sg : Nat → Bool) (A : Nat → Option Addr) (m c : Nat → Nat) (i : Nat) : (shRow q sg A m c i).length = i * 4 := by
  induction i with
  | zero => simp [shRow]
  | succ i ih => unfold shRow at *; rw [List.range_succ, List.flatMap_append, List.length_append, ih]; simp; omega

theorem own_base {w : World} {base : Nat} {e : TypeId} {size n : Nat} {v : Value} {xs : List Value} (h : w.ownsRow base e size v n xs) : ∀ k, v.ownBlock = some k → base ≤ k := by
  intro k hk
  rcases h.2 with ⟨rfl, _⟩ | ⟨g, cap, cur, rfl, hb, _⟩
  · cases hk
  · simp [Value.ownBlock] at hk
    omega
theorem shRow_get (q : Nat → Int) (sg : Nat → Bool) (A : Nat → Option Addr) (m c : Nat → Nat) {j : Nat} : ∀ i, j < i → ∀ k v, ([.int .i64 (j : Int), .int .i64 (q j), .bool (sg j), .slice (A j) (m j) (c j)] : List Value)[k]? = some v → (shRow q sg A m c i)[j * 4 + k]? = some v := by
  intro i
  induction i with
  | zero => intro hj; omega
  | succ i ih =>
    intro hj k v hv
    have hk : k < 4 := by have := (List.getElem?_eq_some_iff.1 hv).1; simpa using this
    have e : shRow q sg A m c (i + 1) = shRow q sg A m c i ++ [.int .i64 (i : Int), .int .i64 (q i), .bool (sg i), .slice (A i) (m i) (c i)] := by
      unfold shRow
      rw [List.range_succ, List.flatMap_append, List.flatMap_cons, List.flatMap_nil, List.append_nil]
    rw [e]
    have hl := shRow_len q sg A m c i
    rcases Nat.lt_or_ge j i with h | h
    · rw [List.getElem?_append_left (by omega)]
      exact ih h k v hv
    · have : j = i := by omega
      subst this
      rw [List.getElem?_append_right (by omega), hl, show j * 4 + k - j * 4 = k by omega]
      exact hv
theorem Fam.Row.far {F : Fam} {f : Nat → Nat} {w : World} (h : F.Row f w) {b i : Nat} (hb : F.w0.heap.size ≤ b) (hne : b ≠ F.blk) (v : Value) : F.Row f (w.setCell ⟨b, i, none⟩ v) := by
  obtain ⟨cs, hc⟩ := h.row
  refine ⟨fun j hj c u hu => ?_, ⟨cs, heap_far hc (p := ⟨b, i, none⟩) (Ne.symm hne) v⟩, h.os, h.tape, h.output, by simpa using h.size, fun g hg hgb => (Below.heap_setCell w ⟨b, i, none⟩ v g (by dsimp only; omega)).trans (h.other g hg hgb), h.bij⟩
  rw [World.cell?_setCell_other _ _ _ _ (by intro e; injection e; omega)]
  exact h.cell j hj c u hu
theorem Fam.Row.toBelow {F : Fam} {f : Nat → Nat} {w w' : World} {B : Nat} (R : F.Row f w') (hb : Below B w F.w0) (h1 : B ≤ F.blk) (h2 : B ≤ F.w0.heap.size) : Below B w w' :=
  ⟨R.os.trans hb.os, R.tape.trans hb.tape, R.output.trans hb.output, Nat.le_trans hb.size R.size, fun k hk => (R.other k (by omega) (by omega)).trans (hb.block k hk)⟩
theorem make_dec (n : Nat) (hn : n ≤ 1000) : ∀ w, (Instr.makeSlice 24 (.int .i64 (n : Int)) (.int .i64 (n : Int))).run Try.prog w = .ok (.slice (some ⟨w.heap.size, 0, none⟩) n n) (w.alloc (.cells (madeCells #[.int .i64 0, .int .i64 0] (n * 2)) 23)) := fun w => by
  obtain ⟨i1, hi, hz, hs, hb⟩ := info_parts infoDec
  have hr := run_make (P := Try.prog) w 24 23 i1 _ Try.underlying24 hi hz .i64 .i64 (n : Int) (n : Int) (by omega) (Int.le_refl _) (by rw [hb]; omega) (by omega)
  simp only [Int.toNat_natCast, hs] at hr
  exact hr
theorem Bij.inj {n : Nat} {f : Nat → Nat} (h : Bij n f) {x y : Nat} (hx : x < n) (hy : y < n) (e : f x = f y) : x = y := by
  obtain ⟨g, hg⟩ := h
  rw [← (hg x hx).2.2.2, ← (hg y hy).2.2.2, e]
/-- A round that writes a share to its place. -/
theorem out_round {F : Fam} {f : Nat → Nat} {w : World} {Bo n k : Nat} {cs : Array Value} {V p : Int} {T : Nat → Int} {o : Obj} (R : F.Row f w) (h1 : F.w0.heap.size ≤ Bo) (h2 : Bo ≠ F.blk) (hO : w.heap[Bo]? = some (.cells cs 23 (0, 0))) (hcs : cs.size = n * 2)
    (HC : ∀ x, x < k → cs[f x * 2]? = some (.int .i64 (T x)) ∧ cs[f x * 2 + 1]? = some (.int .i64 p)) (hB : Bij n f) (hk : k < n) (hV : V = T k) :
    ∃ (k1 : Nat) (cs : Array Value), k1 ≤ n ∧ Value.int .i64 ((k : Int) + 1) = Value.int .i64 (k1 : Int) ∧ F.Row f (((w.setCell ⟨Bo, f k * 2, none⟩ (.int .i64 V)).setCell ⟨Bo, f k * 2 + 1, none⟩ (.int .i64 p)).alloc o) ∧
      (((w.setCell ⟨Bo, f k * 2, none⟩ (.int .i64 V)).setCell ⟨Bo, f k * 2 + 1, none⟩ (.int .i64 p)).alloc o).heap[Bo]? = some (.cells cs 23 (0, 0)) ∧ cs.size = n * 2 ∧ Hid (∀ x, x < k1 → cs[f x * 2]? = some (.int .i64 (T x)) ∧ cs[f x * 2 + 1]? = some (.int .i64 p)) := by
  have hfk : f k < n := by obtain ⟨g, hg⟩ := hB; exact (hg k hk).1
  have R2 := (R.far (i := f k * 2) h1 h2 (.int .i64 V)).far (i := f k * 2 + 1) h1 h2 (.int .i64 p)
  refine ⟨k + 1, _, by omega, rfl, R2.below ((Below.refl _ _).alloc (Nat.le_refl _) o), heap_old (heap_set (heap_set hO (f k * 2) _) (f k * 2 + 1) _) o, by simp [hcs], fun x hx => ?_⟩
  rcases Nat.lt_or_ge x k with h | h
  · have hne : f x ≠ f k := fun e => by have := hB.inj (by omega) hk e; omega
    obtain ⟨c1, c2⟩ := HC x h
    rw [Array.getElem?_setIfInBounds_ne (by omega), Array.getElem?_setIfInBounds_ne (by omega), Array.getElem?_setIfInBounds_ne (by omega), Array.getElem?_setIfInBounds_ne (by omega)]
    exact ⟨c1, c2⟩
  · have hxk : x = k := by omega
    subst hxk
    subst hV
    constructor
    · rw [Array.getElem?_setIfInBounds_ne (by omega), Array.getElem?_setIfInBounds_self_of_lt (by omega)]
    · rw [Array.getElem?_setIfInBounds_self_of_lt (by simp; omega)]
theorem four_cells (w : World) (x y z v : Value) (t : TypeId) : ∀ j u, [x, y, z, v][j]? = some u → (w.alloc (.cells #[x, y, z, v] t)).cell? ((⟨w.heap.size, 0, none⟩ : Addr).add j) = some u := by
  intro j u hj
  match j, hj with
  | 0, hj => simp at hj; subst hj; simp [Addr.add]
  | 1, hj => simp at hj; subst hj; simp [Addr.add]
  | 2, hj => simp at hj; subst hj; simp [Addr.add]
  | 3, hj => simp at hj; subst hj; simp [Addr.add]
theorem big_grown {w w' : World} {s : Bool} {A : Option Addr} {n c k B size : Nat} {z : Int} {v : Value} {xs : List Value} (h : Big .u32 86 B32 w s A n c z) (hown : w.ownsRow B 78 size v k xs) (hg : w.grownBy w' v.ownBlock) : Big .u32 86 B32 w' s A n c z := by
  obtain ⟨l, hd, hr⟩ := h
  refine ⟨l, ⟨hd.1, fun hn => ?_⟩, hr⟩
  obtain ⟨b, cs, hA, hb, hc⟩ := hd.2 hn
  exact ⟨b, cs, hA, grown_heap hb hown hg (by decide), hc⟩

set_option maxHeartbeats 8000000 in
set_option maxRecDepth 100000 in
theorem pshares_ok (u p : Int) (ws : List Int) (A : Option Addr) (n c : Nat) (w : World) (h : decB u p = true) (hI : Ints w A n ws) (hn : n ≤ 9223372036854775807) (hf : wtF ws = 0) :
    Calls Try.prog 20 #[.agg #[.int .i64 u, .int .i64 p], .slice A n c] w (ShEnd u p ws w) := by
  obtain ⟨hn0, hn1, hok, hS⟩ := wtF_ok hf
  have hl := hI.1
  rw [hl] at hn0 hn1 hok hS
  obtain ⟨S, hSe⟩ : ∃ S : Nat, sumW ws n = (S : Int) := ⟨(sumW ws n).toNat, by omega⟩
  have hS0 : 0 < S := by omega
  have hdec := decB_out h
  have hSn : (S : Int) ≤ n * 1000000000 := by rw [← hSe]; exact (sumW_rng n (by omega) hok).2
  have HWL : Hid (∀ j, j < n → 0 ≤ hol ws j ∧ (hol ws j).toNat ≤ S ∧ hol ws j ≤ 1000000000) := fun j hj => by
    have h1 := w_le n (by omega) hok j hj
    have h2 := hok j hj
    omega
  have HRNG : Hid (∀ j, j ≤ n → 0 ≤ sumW ws j ∧ sumW ws j ≤ j * 1000000000) := fun j hj => sumW_rng j (by omega) (fun p hp => hok p (by omega))
  have HST : Hid (∀ j, j < n → sumW ws (j + 1) = sumW ws j + hol ws j) := fun j hj => sumW_step (by omega)
  have HQL : Hid (∀ j, j ≤ n → ∀ U, sumQ U S ws j ≤ U) := fun j hj U => sumQ_le hS0 j (by omega) (fun p hp => hok p (by omega)) (by have := sumW_mono hj (by omega) hok; omega)
  have HSE := Lib.hid hSe
  have H := Lib.hid h
  have HI := Lib.hid hI
  have HWF := Lib.hid hf
  have HL := Lib.hid hl
  obtain ⟨d1, d2, d3, d4⟩ := hdec
  obtain ⟨i0, hi, hz0, hz1, hz2⟩ := info_parts infoSh
  clear h hI hf hl hok hSe
  go_enter Try.func20, Try.ntmps20
  go_wp2_with fail
  refine (chk_ok _ _ _ H.out).mono ?_
  rintro e w1 ⟨rfl, hb1⟩
  have hD1 := heap_below (heap_new w (.cells #[.int .i64 u, .int .i64 p] 23) rfl) hb1
  have hbel := below_then hb1 (B := w.heap.size) (w := w) (by go_grown) (by simp)
  clear hb1
  go_wp2_with fail
  refine (weights_c ws A n c _ (HI.out.below hbel) hn).mono ?_
  rintro e w2 ⟨rfl, rfl⟩
  rw [HWF.out]
  have HI1 := Lib.hid (HI.out.below hbel)
  have HD1 := Lib.hid hD1; have HB1 := Lib.hid hbel
  clear hD1 hbel
  go_wp2
  go_loop [8, 35] (fun x y => ∃ j : Nat, j ≤ n ∧ x = .int .i64 (sumW ws j) ∧ y = .int .i64 j) (fun _ y => n - (intOf y).toNat)
  case atStart => exact ⟨0, Nat.zero_le _, by rw [sumW_zero], rfl⟩
  case round =>
    obtain ⟨j, hj, rfl, rfl⟩ := hrel
    rcases Nat.lt_or_ge j n with hlt | hge
    · obtain ⟨b, off, hA, hbl, hc⟩ := HI1.out.2.2 (by omega)
      subst hA
      have hx := hc j hlt
      clear hc
      have hs := HRNG.out j hj
      have hs2 := HWL.out j hlt
      go_wp2
      go_round
      case rel => exact ⟨j + 1, by omega, by rw [HST.out j hlt], by go_num⟩
      case measure => simp [intOf]; omega
    · obtain rfl : n = j := by omega
      rw [HSE.out]
      obtain ⟨c0, c1, -, -, -⟩ := box2 HD1.out
      obtain ⟨U, hU⟩ : ∃ U, U = u.natAbs := ⟨_, rfl⟩
      have HU := Lib.hid hU
      have hUb : U ≤ 1000000000000000 := by omega
      clear hU
      go_upto_region 13 with fail
      go_cut [11] (fun cv wx => cv = .int .i64 (U : Int) ∧ wx = w1)
      case first =>
        by_cases hu0 : u < -u
        · have e : (U : Int) = -u := by have := HU.out; omega
          go_wp2_with fail
          go_meet
          exact ⟨(by rw [e]), rfl⟩
        · have e : (U : Int) = u := by have := HU.out; omega
          go_wp2_with fail
          go_meet
          exact ⟨(by rw [e]), rfl⟩
      case rest =>
        obtain ⟨rfl, hwc⟩ := hcut
        subst hwc
        clear c0 c1
        go_wp2
        go_loopw [12, 13, 52] (fun v1 v2 v3 wr => ∃ (i : Nat) (sg : Nat → Bool) (B : Nat → Option Addr) (m d : Nat → Nat), i ≤ n ∧ v1 = .int .i64 ((U : Int) - (sumQ U S ws i : Nat)) ∧ v3 = .int .i64 (i : Int) ∧
          wr.ownsRow w.heap.size 78 4 v2 i (shRow (fun j => ((shQ U S ws j : Nat) : Int)) sg B m d i) ∧ (∀ j, j < i → Big .u32 86 B32 wr (sg j) (B j) (m j) (d j) ((shR U S ws j : Nat) : Int)) ∧ wr.heap[w.heap.size]? = some (.cells #[.int .i64 u, .int .i64 p] 23 (0, 0)) ∧ Below w.heap.size w wr) (fun _ _ v3 _ => n - (intOf v3).toNat)
        case atStart => exact ⟨0, fun _ => false, fun _ => none, fun _ => 0, fun _ => 0, Nat.zero_le _, (by simp [sumQ]), rfl, World.ownsRow_nil _ _ _ _, (fun j hj => by omega), HD1.out, HB1.out⟩
        case round =>
          obtain ⟨i, sg, B, m, d, hin, rfl, rfl, hown, hbig, hD, hbel⟩ := hrel
          rcases Nat.lt_or_ge i n with hlt | hge
          · obtain ⟨b, off, hA, hbl, hc⟩ := (HI.out.below hbel).2.2 (by omega)
            subst hA
            have hx := hc i hlt
            clear hc
            have hs2 := HWL.out i hlt
            have hq := HQL.out i hin U
            have HO := Lib.hid hown; have HBG := Lib.hid hbig; have HD := Lib.hid hD; have HB := Lib.hid hbel
            clear hown hbig hD hbel
            go_wp2_with fail
            refine (of_c (U : Int) _ (by omega) (by omega)).mono ?_
            rintro e w2 ⟨s2, A2, n2, c2, rfl, hv2, hb2⟩
            go_wp2_with fail
            refine (of_c (hol ws i) _ (by omega) (by omega)).mono ?_
            rintro e w3 ⟨s3, A3, n3, c3, rfl, hv3, hb3⟩
            go_wp2_with fail
            refine (times_c _ (hv2.below hb3) hv3 (small_of_le (by omega) (by omega)) (small_of_le (by omega) (by omega))).mono ?_
            rintro e w4 ⟨s4, A4, n4, c4, rfl, hv4, hb4⟩
            go_wp2_with fail
            refine (of_c (S : Int) _ (by omega) (by omega)).mono ?_
            rintro e w5 ⟨s5, A5, n5, c5, rfl, hv5, hb5⟩
            go_wp2_with fail
            have hpr : ((U : Int) * hol ws i).natAbs = U * (hol ws i).toNat := by
              rw [Int.natAbs_mul, Int.natAbs_natCast]
              congr 1
              omega
            have hprb : U * (hol ws i).toNat ≤ 1000000000000000 * 1000000000 := Nat.mul_le_mul hUb (by omega)
            refine (by_c _ (hv4.below hb5) hv5 (small_190 (by rw [hpr]; exact Nat.lt_of_le_of_lt hprb (by decide))) (small_of_le (by omega) (by omega)) (by omega)).mono ?_
            rintro e w6 ⟨sq, Aq, nq, cq, sr, Ar, nr, cr, rfl, hvq, hvr, hb6⟩
            rw [hpr, Int.natAbs_natCast] at hvq hvr
            have hvq : Big .u32 86 B32 w6 sq Aq nq cq ((shQ U S ws i : Nat) : Int) := hvq
            have hvr : Big .u32 86 B32 w6 sr Ar nr cr ((shR U S ws i : Nat) : Int) := hvr
            have hb26 : Below wr.heap.size wr w6 := below_then hb6 (below_then hb5 (below_then hb4 (below_then hb3 hb2 hb2.size) (by have := hb2.size; have := hb3.size; omega)) (by have := hb2.size; have := hb3.size; have := hb4.size; omega)) (by have := hb2.size; have := hb3.size; have := hb4.size; have := hb5.size; omega)
            clear hv2 hv3 hv4 hv5 hb2 hb3 hb4 hb5 hb6
            have hqb : shQ U S ws i ≤ U := shQ_le hs2.2.1 hS0
            have hE : Hid (fitV ((shQ U S ws i : Nat) : Int) 1000000000000000 = ((shQ U S ws i : Nat) : Int)) := Lib.hid (by unfold fitV; rw [if_pos (by rw [Int.natAbs_natCast]; omega)])
            have hvq7 := (hvq.alloc (.cells #[.bool sq, .slice Aq nq cq] 51)).alloc (.cells #[.bool sr, .slice Ar nr cr] 51)
            have hvr7 := (hvr.alloc (.cells #[.bool sq, .slice Aq nq cq] 51)).alloc (.cells #[.bool sr, .slice Ar nr cr] 51)
            have hR7 := heap_new (w6.alloc (.cells #[.bool sq, .slice Aq nq cq] 51)) (.cells #[.bool sr, .slice Ar nr cr] 51) rfl
            have hb27 : Below wr.heap.size wr ((w6.alloc (.cells #[.bool sq, .slice Aq nq cq] 51)).alloc (.cells #[.bool sr, .slice Ar nr cr] 51)) := (hb26.alloc hb26.size _).alloc (by have := hb26.size; simp; omega) _
            rw [World.size_alloc] at hR7
            clear hvq hvr hb26 hpr hprb
            go_wp2_with fail
            generalize (w6.alloc (.cells #[.bool sq, .slice Aq nq cq] 51)).alloc (.cells #[.bool sr, .slice Ar nr cr] 51) = w7 at hvq7 hvr7 hR7 hb27 ⊢
            refine (int_c _ 1000000000000000 hvq7 (by omega)).mono ?_
            rintro e w8 ⟨rfl, hb8⟩
            rw [hE.out]
            have hvr8 := hvr7.below hb8
            have hR8 := heap_below hR7 hb8
            have hb28 := below_then hb8 hb27 hb27.size
            clear hvq7 hvr7 hR7 hb27 hb8
            obtain ⟨r0, r1, -, -, hrl⟩ := box2 hR8
            have HO8 := Lib.hid (own_below HO.out hb28)
            have HV8 := Lib.hid hvr8
            have HB8 := Lib.hid hb28
            have hz28 := hb28.size
            clear hvr8 hb28 HO
            go_wp2_with (first
              | (at_builtin; refine wpList_append_own_wide _ rfl _ _ 74 rfl w.heap.size 78 i0 (.agg #[.int .i64 0, .int .i64 0, .bool false, .slice none 0 0]) 4 48 Try.underlying74 hi hz0 hz1 hz2 rfl (by omega) _ i _ rfl (HO8.out.alloc _) ⟨w8.heap.size, 0, none⟩ 1 1 [.int .i64 (i : Int), .int .i64 ((shQ U S ws i : Nat) : Int), .bool sr, .slice Ar nr cr] rfl rfl ?c1 ?c2 ?c3 ?c4 ?c5 ?_))
            case c1 => exact four_cells _ _ _ _ _ _
            case c2 => intro x hx; simp at hx; rcases hx with rfl | rfl | rfl | rfl <;> rfl
            case c3 => unfold maxLen; omega
            case c4 => omega
            case c5 => have := HB.out.size; simp; omega
            intro v' w10 hown' hg' _
            have hg2 := grown_alloc hg'
            have HO10 : w10.ownsRow w.heap.size 78 4 v' (i + 1) (shRow (fun j => ((shQ U S ws j : Nat) : Int)) (upd sg i sr) (upd B i Ar) (upd m i nr) (upd d i cr) (i + 1)) := by
              rw [shRow_succ]
              exact hown'
            have hbig2 : ∀ j, j < i + 1 → Big .u32 86 B32 w10 (upd sg i sr j) (upd B i Ar j) (upd m i nr j) (upd d i cr j) ((shR U S ws j : Nat) : Int) := fun j hj => by
              by_cases hji : j = i
              · rw [hji, upd_same, upd_same, upd_same, upd_same]
                exact big_grown HV8.out HO8.out hg2
              · rw [upd_other _ _ hji, upd_other _ _ hji, upd_other _ _ hji, upd_other _ _ hji]
                exact big_grown ((HBG.out j (by omega)).below HB8.out) HO8.out hg2
            have hD2 := grown_heap (heap_below HD.out HB8.out) HO8.out hg2 (by decide)
            have hbel2 : Below w.heap.size w w10 := Below.grown (below_then HB8.out HB.out HB.out.size) hg2 (by have := HB.out.size; omega) (own_base HO8.out)
            have FIN := Lib.hid (And.intro HO10 (And.intro hbig2 (And.intro hD2 hbel2)))
            clear hown' hg' hg2 HO10 hbig2 hD2 hbel2 HB8 HV8 HO8 HBG HD HB hR8 r0 r1 hrl hE
            go_wp2
            go_roundw
            case rel => exact ⟨i + 1, upd sg i sr, upd B i Ar, upd m i nr, upd d i cr, by omega, (by congr 1; simp only [sumQ]; omega), by go_num, FIN.out.1, FIN.out.2.1, FIN.out.2.2.1, FIN.out.2.2.2⟩
            case measure => simp [intOf]; omega
          · obtain rfl : n = i := by omega
            rcases hown.2 with ⟨hv, h0⟩ | ⟨g, cap, cur, hv, hbg, hg, hnc, hcm, hcs, htake⟩
            · omega
            subst hv
            obtain ⟨F, hF⟩ : ∃ F : Fam, F = ⟨n, g, 0, wr, fun j => ((shQ U S ws j : Nat) : Int), shR U S ws, sg, B, m, d⟩ := ⟨_, rfl⟩
            have G : F.Good := by
              subst hF
              exact ⟨hbig, fun j hj => Nat.lt_of_lt_of_le (Nat.mod_lt _ hS0) (Nat.le_trans (show S ≤ 1000000000000 by omega) (Nat.le_trans (by decide : 1000000000000 ≤ 10 ^ 12) (Nat.pow_le_pow_right (by omega) (by omega)))), hn1, ⟨cur, hg⟩⟩
            have R0 : F.Row (fun x => x) wr := by
              subst hF
              refine ⟨fun j hj k v hv => ?_, ⟨cur, hg⟩, rfl, rfl, rfl, Nat.le_refl _, fun _ _ _ => rfl, fun x => x, fun x hx => ⟨hx, hx, rfl, rfl⟩⟩
              have h1 := hown.cells (g := g) rfl (j * 4 + k) v (shRow_get _ sg B m d n hj k v hv)
              rw [Addr.add_lit] at h1
              show wr.cell? ⟨g, 0 + j * 4 + k, none⟩ = some v
              rw [Nat.add_assoc]
              exact h1
            have e1 : F.n = n := by rw [hF]
            have e2 : F.blk = g := by rw [hF]
            have e3 : F.off = 0 := by rw [hF]
            have e4 : F.w0 = wr := by rw [hF]
            have e5 : F.q = fun j => ((shQ U S ws j : Nat) : Int) := by rw [hF]
            have e6 : F.r = shR U S ws := by rw [hF]
            have HO := Lib.hid hown; have HD := Lib.hid hD; have HB := Lib.hid hbel
            have HG := Lib.hid G
            have HR0 := Lib.hid R0
            have E1 := Lib.hid e1; have E2 := Lib.hid e2; have E3 := Lib.hid e3; have E4 := Lib.hid e4; have E5 := Lib.hid e5; have E6 := Lib.hid e6
            have hgl := lt_heap hg
            have hDg : w.heap.size ≠ g := heap_ne hD hg (by decide)
            have hDl := lt_heap hD
            clear hown hD hbel hg hcs htake hbig G R0 e1 e2 e3 e4 e5 e6 hF
            go_wp2_with fail
            have hso := sort_c F HG.out HR0.out cap (fun x _ => rfl)
            rw [E1.out, E2.out, E3.out] at hso
            refine hso.mono ?_
            rintro e w3 ⟨rfl, f, R3, hsrt⟩
            rw [E6.out] at hsrt
            have HSRT := Lib.hid hsrt
            obtain ⟨L, hL⟩ : ∃ L, L = U - sumQ U S ws n := ⟨_, rfl⟩
            have hq := HQL.out n (Nat.le_refl n) U
            have hLz : (U : Int) - ((sumQ U S ws n : Nat) : Int) = ((L : Nat) : Int) := by omega
            have HSN : Hid ((sumW ws n).toNat = S) := Lib.hid (by have := HSE.out; omega)
            have HOV : Hid (∀ k, outV u ws f k = if u < 0 then -(((shQ U S ws (f k) + if k < L then 1 else 0 : Nat) : Int)) else ((shQ U S ws (f k) + if k < L then 1 else 0 : Nat) : Int)) := Lib.hid (fun k => by
              unfold outV
              rw [HL.out, HSN.out, ← HU.out, ← hL])
            clear hsrt hL
            have hmk := make_dec n hn1
            have hb3 : Below w.heap.size w w3 := R3.toBelow (by rw [E4.out]; exact HB.out) (by rw [E2.out]; exact hbg) (by rw [E4.out]; exact HB.out.size)
            have hz3 := R3.size
            rw [E4.out] at hz3
            have R4 := Lib.hid (R3.below ((Below.refl _ _).alloc (Nat.le_refl _) (.cells (madeCells #[.int .i64 0, .int .i64 0] (n * 2)) 23)))
            have hO4 := Lib.hid (heap_new w3 (.cells (madeCells #[.int .i64 0, .int .i64 0] (n * 2)) 23) rfl)
            clear R3
            go_wp2
            obtain ⟨Bo, hBo⟩ : ∃ Bo, Bo = w3.heap.size := ⟨_, rfl⟩
            rw [← hBo] at hO4 ⊢
            have hBo1 : wr.heap.size ≤ Bo := by omega
            have hbij := R4.out.bij
            rw [E1.out] at hbij
            have HBJ := Lib.hid hbij
            clear hBo hbij hb3 hz3 hmk hLz
            go_loopw [91] (fun v1 wx => ∃ (k : Nat) (cs : Array Value), k ≤ n ∧ v1 = .int .i64 (k : Int) ∧ F.Row f wx ∧ wx.heap[Bo]? = some (.cells cs 23 (0, 0)) ∧ cs.size = n * 2 ∧ Hid (∀ x, x < k → cs[f x * 2]? = some (.int .i64 (outV u ws f x)) ∧ cs[f x * 2 + 1]? = some (.int .i64 p))) (fun v1 _ => n - (intOf v1).toNat)
            case atStart => exact ⟨0, _, Nat.zero_le _, rfl, R4.out, hO4.out, size_madeCells _ _, fun x hx => by omega⟩
            case round =>
              obtain ⟨k, cs, hkn, rfl, R, hO, hcs, HC⟩ := hrel
              clear R4 hO4
              rcases Nat.lt_or_ge k n with hlt | hge
              · have hfk : f k < n := by obtain ⟨gg, hgg⟩ := HBJ.out; exact (hgg k hlt).1
                obtain ⟨a0, a1, a2, a3⟩ := R.four (j := k) (by rw [E1.out]; exact hlt)
                rw [E2.out, E3.out, Nat.zero_add] at a0 a1 a2 a3
                rw [E5.out] at a1
                have a1 : wr.cell? ⟨g, k * 4 + 1, none⟩ = some (.int .i64 ((shQ U S ws (f k) : Nat) : Int)) := a1
                have hDx : wr.heap[w.heap.size]? = some (.cells #[.int .i64 u, .int .i64 p] 23 (0, 0)) := (R.other _ (by rw [E4.out]; exact hDl) (by rw [E2.out]; exact hDg)).trans (by rw [E4.out]; exact HD.out)
                obtain ⟨p0, p1, -, -, pz⟩ := box2 hDx
                have hBl := lt_heap hO
                obtain ⟨y0, hy0⟩ : ∃ y, cs[f k * 2]? = some y := ⟨_, Array.getElem?_eq_getElem (by omega)⟩
                obtain ⟨y1, hy1⟩ : ∃ y, cs[f k * 2 + 1]? = some y := ⟨_, Array.getElem?_eq_getElem (by omega)⟩
                have o0 := (cell_of_row wr Bo (f k * 2) cs 23 (0, 0) hO).trans hy0
                have o1 := (cell_of_row wr Bo (f k * 2 + 1) cs 23 (0, 0) hO).trans hy1
                have z0 : wr.frozen? ⟨Bo, f k * 2, none⟩ = false := by simp [World.frozen?, hO]
                have z1 : wr.frozen? ⟨Bo, f k * 2 + 1, none⟩ = false := by simp [World.frozen?, hO]
                have hfz : ((f k : Nat) : Int) < (n : Int) := by omega
                have hkz : ((k : Nat) : Int) < (n : Int) := by omega
                have hqk := shQ_le (U := U) (HWL.out (f k) hfk).2.1 hS0
                have HR := Lib.hid R; have HOx := Lib.hid hO; have HY := Lib.hid (And.intro hy0 hy1)
                clear R hO hy0 hy1
                by_cases hkL : k < L
                · have hkLz : ((k : Nat) : Int) < (L : Int) := by omega
                  by_cases hu0 : u < 0
                  · go_wp2
                    go_roundw
                    case rel => exact out_round HR.out (by rw [E4.out]; exact hBo1) (by rw [E2.out]; omega) HOx.out hcs HC.out HBJ.out hlt (by rw [HOV.out k, if_pos hu0, if_pos hkL]; omega)
                    case measure => simp [intOf]; omega
                  · go_wp2
                    go_roundw
                    case rel => exact out_round HR.out (by rw [E4.out]; exact hBo1) (by rw [E2.out]; omega) HOx.out hcs HC.out HBJ.out hlt (by rw [HOV.out k, if_neg hu0, if_pos hkL]; omega)
                    case measure => simp [intOf]; omega
                · have hkLz : ¬ ((k : Nat) : Int) < (L : Int) := by omega
                  by_cases hu0 : u < 0
                  · go_wp2
                    go_roundw
                    case rel => exact out_round HR.out (by rw [E4.out]; exact hBo1) (by rw [E2.out]; omega) HOx.out hcs HC.out HBJ.out hlt (by rw [HOV.out k, if_pos hu0, if_neg hkL]; omega)
                    case measure => simp [intOf]; omega
                  · go_wp2
                    go_roundw
                    case rel => exact out_round HR.out (by rw [E4.out]; exact hBo1) (by rw [E2.out]; omega) HOx.out hcs HC.out HBJ.out hlt (by rw [HOV.out k, if_neg hu0, if_neg hkL]; omega)
                    case measure => simp [intOf]; omega
              · obtain rfl : n = k := by omega
                have hfin : ShEnd u p ws w (.returned (.tuple #[.slice (some ⟨Bo, 0, none⟩) n n, .int .i64 0])) wr := by
                  refine ⟨f, Bo, by rw [HL.out], by rw [HL.out]; exact HBJ.out, by rw [HL.out, HSN.out, ← HU.out]; exact HSRT.out, lt_heap hO, fun x hx => ?_, R.toBelow (by rw [E4.out]; exact HB.out) (by rw [E2.out]; exact hbg) (by rw [E4.out]; exact HB.out.size)⟩
                  rw [HL.out] at hx
                  exact ⟨(cell_of_row wr Bo (f x * 2) cs 23 (0, 0) hO).trans (HC.out x hx).1, (cell_of_row wr Bo (f x * 2 + 1) cs 23 (0, 0) hO).trans (HC.out x hx).2⟩
                have HFIN := Lib.hid hfin
                clear hfin R hO hcs HC
                go_wp2
                go_ret2
                exact HFIN.out

end Go.Proofs.Ytegabimiegdcjaa
