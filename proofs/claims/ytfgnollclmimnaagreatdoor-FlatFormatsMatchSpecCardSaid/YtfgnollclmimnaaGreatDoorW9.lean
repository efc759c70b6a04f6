/- The walks of package whole: the leaves. The walks of package whole: compare, sum, less. The walks of package whole: less. The walks of package whole: Plus and what stands on it. The walks of package whole: Sign, Minus, Abs, Less, Compare, Odd, Int. The walk of package whole: Times. The walk of package whole: By. The walks of package whole: Odd, Int, Power. The walk of package whole: Power. -/
import Derived.Test.YtfgnollclmimnaaGreatDoorProg
import Derived.Handy
import Derived.Test.YtfgnollclmimnaaGreatDoorMem
import Derived.Deep.QuietTactic
import Derived.BigQuiet
import Derived.Deep.Draws
import Derived.WalkSmall
import Derived.Deep.RegionHeld3
import Derived.Deep.RegionWith
-- merged: W1 W2 W3 W4 W5 W6 W7 W8 W9

namespace Go.Proofs.YtfgnollclmimnaaGreatDoor
open Go.RowKit Limb

def slen : Value → Nat | .slice _ n _ => n | _ => 0

theorem trim_take_pos {l : List Nat} {k : Nat} (hk : k < l.length) (h : dg l k ≠ 0) : trim (l.take (k + 1)) = l.take (k + 1) := by
  rw [List.take_succ_eq_append_getElem hk]
  apply trim_snoc_pos
  have := dg_get hk
  rw [List.getElem?_eq_getElem hk] at this
  injection this with this
  rw [this]; exact h
theorem trim_take_zero {l : List Nat} {k : Nat} (hk : k < l.length) (h : dg l k = 0) : trim (l.take (k + 1)) = trim (l.take k) := by
  rw [List.take_succ_eq_append_getElem hk]
  have := dg_get hk
  rw [List.getElem?_eq_getElem hk] at this
  injection this with this
  rw [this, h]
  exact trim_snoc_zero _

/-- What 'made' makes. -/
theorem big_of_trim {K : IntKind} {E : TypeId} {b : Nat} {w : World} {A : Option Addr} {n c k : Nat} {l : List Nat} {neg : Bool} (hd : Dig w K E A n l) (hg : Digs b l) (hc : n ≤ c) (hm : c ≤ maxLen) (hk : k ≤ n) (ht : trim l = l.take k) :
    Big K E b w (neg && decide (0 < k)) A k c (sg neg (val b l)) := by
  refine ⟨trim l, by rw [ht]; exact hd.take hk, by omega, hm, digs_trim hg, norm_trim l, ?_, ?_⟩
  · intro h e
    simp at h
    have := congrArg List.length ht
    rw [e, List.length_take, hd.1] at this
    simp at this
    omega
  · rw [val_trim]
    rcases Nat.eq_zero_or_pos k with h0 | h0
    · subst h0
      rw [List.take_zero] at ht
      have : val b l = 0 := by rw [← val_trim, ht]; rfl
      rw [this]
      cases neg <;> simp [sg]
    · simp [h0]

end Go.Proofs.YtfgnollclmimnaaGreatDoor

namespace Go.Proofs.YtfgnollclmimnaaGreatDoor
open Go.RowKit Limb

/-- What compare's number says. -/
def Cmp (r : Int) (x y : Nat) : Prop := (r < 0 ↔ x < y) ∧ (0 < r ↔ y < x) ∧ -9223372036854775807 ≤ r ∧ r ≤ 9223372036854775807
theorem Cmp.lt {x y : Nat} (h : x < y) : Cmp (-1) x y := by unfold Cmp; omega
theorem Cmp.gt {x y : Nat} (h : y < x) : Cmp 1 x y := by unfold Cmp; omega
theorem Cmp.eq {x y : Nat} (h : x = y) : Cmp 0 x y := by unfold Cmp; omega
def CmpEnd (w : World) (x y : Nat) (e : Ending) (w' : World) : Prop := ∃ r : Int, e = .returned (.int .i64 r) ∧ Cmp r x y ∧ ∃ q, w' = w.drewN q

theorem dN3 (w : World) (a b c : Nat) : ((w.drewN a).drewN b).drewN c = w.drewN (a + b + c) := by simp [World.drewN_drewN]

theorem cmp_len {b : Nat} (hb : 1 < b) {l m : List Nat} (hl : Digs b l) (hm : Digs b m) (nl : Norm l) (nm : Norm m) (h : l.length ≠ m.length) (h1 : l.length ≤ maxLen) (h2 : m.length ≤ maxLen) : Cmp ((l.length : Int) - m.length) (val b l) (val b m) := by
  unfold maxLen at h1 h2
  unfold Cmp
  rcases Nat.lt_or_ge l.length m.length with k | k
  · have := val_lt_of_len hb hl nm k; omega
  · have := val_lt_of_len hb hm nl (by omega : m.length < l.length); omega

theorem Tryz.info136 : (Tryz.prog.info? 136).map (fun i => (i.zero, i.size, i.bytes)) = some (some (.int .u32 0), 1, 4) := by kernel_rfl

/-- What sum, less, trimmed leave: digits in a row of the call's own. -/
def Row (E : TypeId) (B : Nat) (w : World) (v : Value) (os : List Nat) : Prop := w.ownsRow B E 1 v os.length (digV .u32 os)

theorem u32_cell {w : World} {E : TypeId} (x : Int) (g : Nat) (hg : g = w.heap.size) : ∀ j u, [Value.int .u32 x][j]? = some u → (w.alloc (.cells #[.int .u32 x] E)).cell? ((⟨g, 0, none⟩ : Addr).add j) = some u := by
  subst hg
  intro j u hj
  match j, hj with
  | 0, hj => simp at hj; subst hj; simp [Addr.add]

theorem row_cast {w : World} {B : Nat} {E : TypeId} {v : Value} {n : Nat} {os : List Nat} {X : Int} {x : Nat} (h : w.ownsRow B E 1 v n (digV .u32 os ++ [.int .u32 X])) (hx : X = (x : Int)) : w.ownsRow B E 1 v n (digV .u32 (os ++ [x])) := by
  subst hx; rw [digV_snoc]; exact h

theorem sum_rel {l m os : List Nat} {j cy p q : Nat} (hos : os.length = j) (hval : val B32 os + B32 ^ j * cy = val B32 (l.take j) + val B32 (m.take j)) (hp : p = dg l j) (hq : q = dg m j) (gos : Digs B32 os) (hcy : cy ≤ 1) (b1 : p < 4294967296) (b2 : q < 4294967296) :
    (os ++ [(cy + p + q) % B32]).length = j + 1 ∧ Digs B32 (os ++ [(cy + p + q) % B32]) ∧ (cy + p + q) / B32 ≤ 1 ∧ val B32 (os ++ [(cy + p + q) % B32]) + B32 ^ (j + 1) * ((cy + p + q) / B32) = val B32 (l.take (j + 1)) + val B32 (m.take (j + 1)) := by
  subst hos
  refine ⟨by simp, gos.snoc (Nat.mod_lt _ (by decide)), carry_le hcy b1 b2, ?_⟩
  rw [sum_step hval, val_take_succ, val_take_succ, hp, hq]
  rfl

end Go.Proofs.YtfgnollclmimnaaGreatDoor

namespace Go.Proofs.YtfgnollclmimnaaGreatDoor
open Go.RowKit Limb

theorem u64w (x : Int) : IntKind.u64.wrap x = x % 18446744073709551616 := by simp [IntKind.wrap, IntKind.bits, IntKind.signed]
theorem sub_digit (p br q : Nat) (hbr : br ≤ 1) (hp : p < 4294967296) (hq : q < 4294967296) :
    IntKind.u64.wrap (IntKind.u64.wrap ((p : Int) - br) - q) % 4294967296 = ((dig B32 br p q : Nat) : Int) := by
  rw [u64w, u64w]; unfold dig B32; split <;> omega
theorem sub_borrow (p br q : Nat) (hbr : br ≤ 1) (hp : p < 4294967296) (hq : q < 4294967296) :
    bits BinOp.and IntKind.u64 (IntKind.u64.wrap (IntKind.u64.wrap ((p : Int) - br) - q) / 4294967296) 1 = ((bor br p q : Nat) : Int) := by
  have h : 0 ≤ IntKind.u64.wrap (IntKind.u64.wrap ((p : Int) - br) - q) ∧ IntKind.u64.wrap (IntKind.u64.wrap ((p : Int) - br) - q) ≤ 18446744073709551615 := by rw [u64w]; omega
  rw [and_one_u64 _ (by omega) (by omega), u64w, u64w]
  unfold bor; split <;> omega
theorem sub_digit0 (p br : Nat) (hbr : br ≤ 1) (hp : p < 4294967296) : IntKind.u64.wrap ((p : Int) - br) % 4294967296 = ((dig B32 br p 0 : Nat) : Int) := by
  rw [u64w]; unfold dig B32; split <;> omega
theorem sub_borrow0 (p br : Nat) (hbr : br ≤ 1) (hp : p < 4294967296) : bits BinOp.and IntKind.u64 (IntKind.u64.wrap ((p : Int) - br) / 4294967296) 1 = ((bor br p 0 : Nat) : Int) := by
  have h : 0 ≤ IntKind.u64.wrap ((p : Int) - br) ∧ IntKind.u64.wrap ((p : Int) - br) ≤ 18446744073709551615 := by rw [u64w]; omega
  rw [and_one_u64 _ (by omega) (by omega), u64w]
  unfold bor; split <;> omega

theorem less_rel {l m os : List Nat} {j br p q : Nat} (hos : os.length = j) (hval : val B32 (l.take j) + B32 ^ j * br = val B32 os + val B32 (m.take j)) (hp : p = dg l j) (hq : q = dg m j) (gos : Digs B32 os) (hbr : br ≤ 1) (b1 : p < 4294967296) (b2 : q < 4294967296) :
    (os ++ [dig B32 br p q]).length = j + 1 ∧ Digs B32 (os ++ [dig B32 br p q]) ∧ val B32 (l.take (j + 1)) + B32 ^ (j + 1) * bor br p q = val B32 (os ++ [dig B32 br p q]) + val B32 (m.take (j + 1)) := by
  subst hos
  refine ⟨by simp, gos.snoc (dig_lt hbr b1 b2), ?_⟩
  have h := diff_step hval hbr (b := B32) (p := p) (q := q) b1 b2
  rw [val_take_succ, val_take_succ]
  rw [hp, hq] at h ⊢
  exact h

end Go.Proofs.YtfgnollclmimnaaGreatDoor

namespace Go.Proofs.YtfgnollclmimnaaGreatDoor
open Go.RowKit Limb

theorem plus_same {s : Bool} {x y : Nat} : sg s (x + y) = sg s x + sg s y := by unfold sg; split <;> omega
theorem Row.slice {E : TypeId} {B : Nat} {w : World} {v : Value} {os : List Nat} (h : Row E B w v os) : ∃ A c, v = .slice A os.length c := own_slice h

theorem sg_less {s t : Bool} {x y : Nat} (h : s ≠ t) (hle : y ≤ x) : sg s (x - y) = sg s x + sg t y := by cases s <;> cases t <;> simp_all [sg] <;> omega
theorem sg_less' {s t : Bool} {x y : Nat} (h : s ≠ t) (hle : x ≤ y) : sg t (y - x) = sg s x + sg t y := by cases s <;> cases t <;> simp_all [sg] <;> omega
theorem len_of_val {b : Nat} (hb : 1 < b) {l m : List Nat} (gl : Digs b l) (nm : Norm m) (h : val b m ≤ val b l) : m.length ≤ l.length := by
  rcases Nat.lt_or_ge l.length m.length with k | k
  · have := val_lt_of_len hb gl nm k; omega
  · exact k

end Go.Proofs.YtfgnollclmimnaaGreatDoor

namespace Go.Proofs.YtfgnollclmimnaaGreatDoor
open Go.RowKit Limb

theorem Big.sign {K : IntKind} {E : TypeId} {b : Nat} {w : World} {s : Bool} {A : Option Addr} {n c : Nat} {z : Int} (hb : 0 < b) (h : Big K E b w s A n c z) : (s = true ∧ z.sign = -1) ∨ (s = false ∧ n = 0 ∧ z.sign = 0) ∨ (s = false ∧ 0 < n ∧ z.sign = 1) := by
  obtain ⟨l, hd, _, _, _, nl, sl, rfl⟩ := h
  have hl := hd.1
  cases s with
  | true =>
    have := val_pos hb nl (sl rfl)
    exact .inl ⟨rfl, by simp only [sg, if_true]; exact Int.sign_eq_neg_one_of_neg (by omega)⟩
  | false =>
    rcases Nat.eq_zero_or_pos n with h0 | h0
    · subst h0
      rw [List.length_eq_zero_iff] at hl
      subst hl
      exact .inr (.inl ⟨rfl, rfl, by simp [sg, val]⟩)
    · have := val_pos hb nl (by intro e; subst e; simp at hl; omega)
      exact .inr (.inr ⟨rfl, h0, by simp only [sg]; exact Int.sign_eq_one_of_pos (by simpa using this)⟩)

theorem sg_not {s : Bool} {x : Nat} : sg (!s) x = - sg s x := by cases s <;> simp [sg]

theorem natAbs_sg (s : Bool) (x : Nat) : ((sg s x).natAbs : Int) = sg false x := by rw [sg_natAbs]; rfl

theorem Small.neg {z : Int} (h : Small z) : Small (-z) := by unfold Small at *; omega

end Go.Proofs.YtfgnollclmimnaaGreatDoor

namespace Go.Proofs.YtfgnollclmimnaaGreatDoor
open Go.RowKit Limb

/-- Digits in a row of the call's own, written in place. -/
theorem row_cell {w : World} {B : Nat} {E : TypeId} {g N c : Nat} {os : List Nat} (h : w.ownsRow B E 1 (.slice (some ⟨g, 0, none⟩) N c) N (digV .u32 os)) {p : Nat} (hp : p < N) : w.cell? ⟨g, p, none⟩ = some (.int .u32 ((dg os p : Nat) : Int)) := by
  have hl := h.1
  rw [digV_length] at hl
  rw [h.cellAt p (by omega)]
  exact digV_get _ (by omega)
theorem row_store {w : World} {B : Nat} {E : TypeId} {g N c : Nat} {os : List Nat} (h : w.ownsRow B E 1 (.slice (some ⟨g, 0, none⟩) N c) N (digV .u32 os)) (p : Nat) {X : Int} {x : Nat} (hx : X = (x : Int)) :
    (w.setCell ⟨g, p, none⟩ (.int .u32 X)).ownsRow B E 1 (.slice (some ⟨g, 0, none⟩) N c) N (digV .u32 (os.set p x)) := by
  subst hx; rw [digV_set]; exact (h.stored p _).1
theorem dg_set_other {l : List Nat} {k j d : Nat} (h : j ≠ k) : dg (l.set k d) j = dg l j := getD_set_other h

theorem made_zeros (n : Nat) : (madeCells #[Value.int .u32 0] n).toList = digV .u32 (List.replicate n 0) := by
  rw [toList_madeCells_one]; simp [digV]

theorem sg_mul {s t : Bool} {a b : Nat} : sg (!s == t) (a * b) = sg s a * sg t b := by cases s <;> cases t <;> simp [sg, Int.neg_mul, Int.mul_neg]

theorem mulw {cy o x y : Nat} (h1 : cy < 4294967296) (h2 : o < 4294967296) (h3 : x < 4294967296) (h4 : y < 4294967296) :
    IntKind.u64.wrap ((cy : Int) + IntKind.u64.wrap ((o : Int) + IntKind.u64.wrap ((x : Int) * (y : Int)))) = ((cy + o + x * y : Nat) : Int) := by
  have h5 : x * y ≤ 4294967295 * 4294967295 := Nat.mul_le_mul (by omega) (by omega)
  rw [← Int.natCast_mul]
  generalize x * y = p at *
  rw [u64w, u64w, u64w]
  omega

theorem times_rel {l m ps : List Nat} {j q cy : Nat} (hlt : j + q < ps.length) (hval : val B32 ps + B32 ^ (j + q) * cy = val B32 (l.take j) * val B32 m + B32 ^ j * (dg l j * val B32 (m.take q))) (gs : Digs B32 ps)
    (h1 : cy < 4294967296) (h3 : dg l j < 4294967296) (h4 : dg m q < 4294967296) :
    let t := cy + dg ps (j + q) + dg l j * dg m q
    t / B32 < 4294967296 ∧ Digs B32 (ps.set (j + q) (t % B32)) ∧ val B32 (ps.set (j + q) (t % B32)) + B32 ^ (j + (q + 1)) * (t / B32) = val B32 (l.take j) * val B32 m + B32 ^ j * (dg l j * val B32 (m.take (q + 1))) := by
  intro t
  have h2 : dg ps (j + q) < 4294967296 := dg_lt gs (by decide) _
  refine ⟨mul_carry h1 h2 h3 h4, gs.set _ (Nat.mod_lt _ (by decide)), ?_⟩
  have h := mul_step (b := B32) (m := dg l j * dg m q) hlt hval
  have e1 : j + (q + 1) = j + q + 1 := by omega
  rw [e1]
  refine Eq.trans h ?_
  rw [val_take_succ, Nat.mul_add, Nat.mul_add, Nat.pow_add]
  have e2 : B32 ^ j * B32 ^ q * (dg l j * dg m q) = B32 ^ j * (dg l j * (B32 ^ q * m.getD q 0)) := by
    show _ = B32 ^ j * (dg l j * (B32 ^ q * dg m q))
    rw [Nat.mul_assoc, Nat.mul_left_comm (B32 ^ q)]
  rw [e2, Nat.add_assoc]

theorem times_last {l m ps : List Nat} {j k cy : Nat} (hlt : j + k < ps.length) (hk : m.length = k) (hz : dg ps (j + k) = 0) (hval : val B32 ps + B32 ^ (j + k) * cy = val B32 (l.take j) * val B32 m + B32 ^ j * (dg l j * val B32 (m.take k))) :
    val B32 (ps.set (j + k) cy) = val B32 (l.take (j + 1)) * val B32 m := by
  have h := val_set B32 ps (j + k) cy hlt
  have hz' : ps.getD (j + k) 0 = 0 := hz
  rw [hz', Nat.mul_zero, Nat.add_zero, hval, show m.take k = m from List.take_of_length_le (by omega)] at h
  rw [h, val_take_succ, Nat.add_mul, Nat.mul_assoc]
  rfl

end Go.Proofs.YtfgnollclmimnaaGreatDoor

namespace Go.Proofs.YtfgnollclmimnaaGreatDoor
open Go.RowKit Limb

theorem boxes4 (w : World) (x0 x1 y0 y1 z0 z1 u0 u1 : Value) (T U V X : TypeId) : ∀ w3, (((w.alloc (.cells #[x0, x1] T)).alloc (.cells #[y0, y1] U)).alloc (.cells #[z0, z1] V)).alloc (.cells #[u0, u1] X) = w3 →
    w3.heap[w.heap.size]? = some (.cells #[x0, x1] T (0, 0)) ∧ w3.heap[w.heap.size + 1]? = some (.cells #[y0, y1] U (0, 0)) ∧ w3.heap[w.heap.size + 1 + 1]? = some (.cells #[z0, z1] V (0, 0)) ∧ w3.heap[w.heap.size + 1 + 1 + 1]? = some (.cells #[u0, u1] X (0, 0)) ∧ Below w.heap.size w w3 := by
  intro w3 hw
  subst hw
  obtain ⟨h1, h2, h3, h4⟩ := boxes3 w x0 x1 y0 y1 z0 z1 T U V _ rfl
  exact ⟨heap_old h1 _, heap_old h2 _, heap_old h3 _, heap_new _ _ (by simp), h4.alloc h4.size _⟩

/-- What a call that makes two large numbers comes to. -/
def Makes2 (K : IntKind) (E : TypeId) (b : Nat) (w : World) (x y : Int) (e : Ending) (w' : World) : Prop :=
  ∃ s A n c t B k d, e = .returned (.tuple #[.agg #[.bool s, .slice A n c], .agg #[.bool t, .slice B k d]]) ∧ Big K E b w' s A n c x ∧ Big K E b w' t B k d y ∧ Below w.heap.size w w'

theorem set_bit32 {q : List Nat} {i t : Nat} (h : Digs B32 q) (hQ : val B32 q = 2 ^ (i + 1) * t) (hi : i / 32 < q.length) :
    val B32 (q.set (i / 32) (dg q (i / 32) ||| 2 ^ (i % 32))) = 2 ^ i * (2 * t + 1) := set_bit (q := q) h hQ hi
theorem val_bit32 {l : List Nat} (h : Digs B32 l) (i : Nat) : dg l (i / 32) / 2 ^ (i % 32) % 2 = val B32 l / 2 ^ i % 2 := val_bit (l := l) h i

/-- The bit that is put under the rest. -/
theorem rest_bit {l rs os : List Nat} {j : Nat} (gl : Digs B32 l) (gos : Digs B32 os) (hval : val B32 os = val B32 rs + val B32 rs) :
    bits .or .u32 ((dg os 0 : Nat) : Int) (bits .and .u32 (((dg l (j / 32) : Nat) : Int) / 2 ^ (j % 32)) 1) = ((dg os 0 + val B32 l / 2 ^ j % 2 : Nat) : Int) := by
  have h1 : dg l (j / 32) < 4294967296 := dg_lt gl (by decide) _
  have h2 : dg os 0 < 4294967296 := dg_lt gos (by decide) _
  have e0 : ((dg l (j / 32) : Nat) : Int) / 2 ^ (j % 32) = ((dg l (j / 32) / 2 ^ (j % 32) : Nat) : Int) := by
    rw [Int.natCast_ediv, Int.natCast_pow]; rfl
  have h3 : dg l (j / 32) / 2 ^ (j % 32) < 4294967296 := Nat.lt_of_le_of_lt (Nat.div_le_self _ _) h1
  rw [e0]
  have e1 := u32_and_nat (dg l (j / 32) / 2 ^ (j % 32)) 1 h3 (by omega)
  rw [Nat.and_one_is_mod, val_bit32 gl] at e1
  have e1' : bits .and .u32 ((dg l (j / 32) / 2 ^ (j % 32) : Nat) : Int) 1 = ((val B32 l / 2 ^ j % 2 : Nat) : Int) := e1
  rw [e1', u32_or_nat _ _ h2 (by omega)]
  have h4 : dg os 0 % 2 = 0 := by
    have := val_digit (b := B32) (by decide) gos 0
    rw [Nat.pow_zero, Nat.div_one] at this
    have h5 : dg os 0 = val B32 os % B32 := this.symm
    rw [h5, hval]
    unfold B32
    omega
  rw [or_bit h4 (by omega)]
theorem val_set0 {os : List Nat} {c : Nat} (h : 0 < os.length) : val B32 (os.set 0 (dg os 0 + c)) = val B32 os + c := by
  have := val_set B32 os 0 (dg os 0 + c) h
  rw [Nat.pow_zero, Nat.one_mul, Nat.one_mul] at this
  have e : os.getD 0 0 = dg os 0 := rfl
  omega

/-- The bit of the quotient. -/
theorem quot_bit {q : List Nat} {i t : Nat} (h : Digs B32 q) (_hQ : val B32 q = 2 ^ (i + 1) * t) :
    bits .or .u32 ((dg q (i / 32) : Nat) : Int) (2 ^ (i % 32) % 4294967296) = ((dg q (i / 32) ||| 2 ^ (i % 32) : Nat) : Int) ∧ dg q (i / 32) ||| 2 ^ (i % 32) < 4294967296 := by
  have h1 : dg q (i / 32) < 4294967296 := dg_lt h (by decide) _
  have h2 : 2 ^ (i % 32) < 4294967296 := Nat.lt_of_lt_of_le (Nat.pow_lt_pow_right (a := 2) (by omega) (Nat.mod_lt i (by omega : 0 < 32))) (by decide)
  have e : (2 : Int) ^ (i % 32) % 4294967296 = ((2 ^ (i % 32) : Nat) : Int) := by
    have e1 : (2 : Int) ^ (i % 32) = ((2 ^ (i % 32) : Nat) : Int) := by rw [Int.natCast_pow]; rfl
    rw [e1]; generalize 2 ^ (i % 32) = X at *; omega
  rw [e]
  exact ⟨u32_or_nat _ _ h1 h2, or_lt h1 (Nat.mod_lt i (by omega))⟩

theorem by_less {A b T r q0 bit j Q : Nat} (h : A / 2 ^ (j + 1) = T * b + r ∧ Q = 2 ^ (j + 1) * T) (hb : bit = A / 2 ^ j % 2) (hr : q0 = 2 * r + bit) : A / 2 ^ j = 2 * T * b + q0 ∧ Q = 2 ^ j * (2 * T) := by
  subst hr; subst hb
  exact div_step h.1 h.2
theorem by_more {A b T r q0 bit j Q : Nat} (h : A / 2 ^ (j + 1) = T * b + r ∧ Q = 2 ^ (j + 1) * T) (hb : bit = A / 2 ^ j % 2) (hr : q0 = 2 * r + bit) (hle : b ≤ q0) : A / 2 ^ j = (2 * T + 1) * b + (q0 - b) := by
  have h1 := (by_less h hb hr).1
  rw [Nat.add_mul, Nat.one_mul]
  omega
theorem by_end {A b T r : Nat} (h : A / 2 ^ 0 = T * b + r) (hr : r < b) : A / b = T ∧ A % b = r := by
  rw [Nat.pow_zero, Nat.div_one] at h
  subst h
  constructor
  · rw [Nat.mul_comm, Nat.mul_add_div (by omega), Nat.div_eq_of_lt hr, Nat.add_zero]
  · rw [Nat.mul_comm, Nat.mul_add_mod, Nat.mod_eq_of_lt hr]
theorem by_start {l : List Nat} {n b : Nat} (gl : Digs B32 l) (hl : l.length = n) : val B32 l / 2 ^ (n * 32) = 0 * b + val B32 [] := by
  have h := val_lt gl
  rw [hl] at h
  have e : B32 ^ n = 2 ^ (n * 32) := by
    rw [Nat.mul_comm, Nat.pow_mul]; rfl
  rw [e] at h
  rw [Nat.div_eq_of_lt h]; simp [val]

end Go.Proofs.YtfgnollclmimnaaGreatDoor

namespace Go.Proofs.YtfgnollclmimnaaGreatDoor
open Go.RowKit Limb

theorem val_even {l : List Nat} (g : Digs B32 l) : val B32 l % 2 = dg l 0 % 2 := by
  have := val_digit (b := B32) (by decide) g 0
  rw [Nat.pow_zero, Nat.div_one] at this
  have h5 : dg l 0 = val B32 l % B32 := this.symm
  rw [h5]; unfold B32; omega

/-- A number as an int, if it is not beyond a bound. -/
def fitB (z : Int) (most : Nat) : Bool := decide (z.natAbs ≤ most)
def fitV (z : Int) (most : Nat) : Int := if z.natAbs ≤ most then z else 0

theorem val_len1 {l : List Nat} (h : l.length = 1) : val B32 l = dg l 0 := by
  match l, h with
  | [a], _ => simp [val, dg]
theorem val_len2 {l : List Nat} (h : l.length = 2) : val B32 l = dg l 0 + 4294967296 * dg l 1 := by
  match l, h with
  | [a, b], _ => simp [val, dg, B32]
theorem or_one (x : Nat) (h : x < 4294967296) : bits .or .u64 0 (x : Int) = (x : Int) := by
  have := u64_or_nat 0 x (by omega) (by omega)
  rw [Nat.zero_or] at this
  exact this
theorem or_two (x y : Nat) (h : x < 4294967296) (h2 : y < 4294967296) : bits .or .u64 (x : Int) ((y : Int) * 4294967296) = ((x + 4294967296 * y : Nat) : Int) := by
  have e : (y : Int) * 4294967296 = ((y * 4294967296 : Nat) : Int) := by rw [Int.natCast_mul]; rfl
  have h3 := u64_or_nat x (y * 4294967296) (by omega) (by omega)
  have h4 := Nat.two_pow_add_eq_or_of_lt (i := 32) (b := x) (by omega) y
  rw [Nat.or_comm] at h4
  have e2 : 2 ^ 32 * y = y * 4294967296 := by rw [Nat.mul_comm]
  rw [e2] at h4
  rw [e, h3, ← h4]
  congr 1
  omega

end Go.Proofs.YtfgnollclmimnaaGreatDoor

namespace Go.Proofs.YtfgnollclmimnaaGreatDoor
open Go.RowKit Limb

theorem small_pow {j : Nat} (h : j ≤ 150) : Small ((10 ^ j : Nat) : Int) := by
  unfold Small
  rw [Int.natAbs_natCast]
  exact Nat.pow_lt_pow_right (by omega) (by omega)
theorem small_of_le {z : Int} (h1 : -10000000000000000000000000000000000000000 ≤ z) (h2 : z ≤ 10000000000000000000000000000000000000000) : Small z := by
  unfold Small
  have : 10000000000000000000000000000000000000000 < 10 ^ 200 := by decide
  omega

end Go.Proofs.YtfgnollclmimnaaGreatDoor
