/- The walks of package whole: Sign, Minus, Abs, Less, Compare, Odd, Int. Plain: a format as it is read from its text, line by line and word by word. -/
import Derived.Test.YthjlleifpnpfgaaGreatDoorF0
import Derived.Test.YthjlleifpnpfgaaGreatDoorHB
import Derived.Test.YthjlleifpnpfgaaGreatDoorM0
-- merged: W5 F6
namespace Go.Proofs.YthjlleifpnpfgaaGreatDoor
open Go.RowKit Limb
theorem Big.sign {K : IntKind} {E : TypeId} {b : Nat} {w : World} {s : Bool} {A : Option Addr} {n c : Nat} {z : Int} (hb : 0 < b) (h : Big K E b w s A n c z) : (s = true /\ z.sign = -1) ∨ (s = false /\ n = 0 /\ z.sign = 0) ∨ (s = false /\ 0 < n /\ z.sign = 1) := by
 obtain ⟨l, hd, _, _, _, nl, sl, rfl⟩ := h
 have hl := hd.1
 cases s with
 | true =>
  have := val_pos hb nl (sl rfl)
  exact .inl ⟨rfl, by simp only [sg, if_true]; exact Int.sign_eq_neg_one_of_neg (by omega)⟩
 | false =>
  rcases Nat.eq_zero_or_pos n with h0 | h0
  ·subst h0
   rw [List.length_eq_zero_iff] at hl
   subst hl
   exact .inr (.inl ⟨rfl, rfl, by simp [sg, val]⟩)
  ·have := val_pos hb nl (by intro e; subst e; simp at hl; omega)
   exact .inr (.inr ⟨rfl, h0, by simp only [sg]; exact Int.sign_eq_one_of_pos (by simpa using this)⟩)
theorem sign_c (w : World) {s : Bool} {A : Option Addr} {n c : Nat} {z : Int} (h : Big .u32 189 B32 w s A n c z) :
  Calls Tryz.prog 112 #[.agg #[.bool s, .slice A n c]] w fun e w' => e = .returned (.int .i64 z.sign) /\ Below w.heap.size w w' := by
 rcases h.sign (by decide) with ⟨rfl, e⟩ | ⟨rfl, rfl, e⟩ | ⟨rfl, h0, e⟩
 ·rw [e]
  go_enter Tryz.func112, Tryz.ntmps112
  go_wp2
  go_ret
  exact ⟨rfl, by go_grown⟩
 ·rw [e]
  go_enter Tryz.func112, Tryz.ntmps112
  go_wp2
  go_ret
  exact ⟨rfl, by go_grown⟩
 ·rw [e]
  go_enter Tryz.func112, Tryz.ntmps112
  go_wp2
  go_ret
  exact ⟨rfl, by go_grown⟩
theorem sg_not {s : Bool} {x : Nat} : sg (!s) x = - sg s x := by cases s <;> simp [sg]
set_option maxHeartbeats 1000000 in
theorem minus_c (w : World) {s : Bool} {A : Option Addr} {n c : Nat} {z : Int} (h : Big .u32 189 B32 w s A n c z) :
  Calls Tryz.prog 158 #[.agg #[.bool s, .slice A n c]] w (Makes .u32 189 B32 w (-z)) := by
 obtain ⟨l, hd, hnc, hcm, gl, nl, sl, rfl⟩ := h
 go_enter Tryz.func158, Tryz.ntmps158
 go_wp2_with fail
 refine (made_c l (!s) A n c _ ((hd.alloc _).alloc _) hnc hcm gl).mono ?_
 rintro e w1 ⟨s1, A1, n1, c1, rfl, hv, hb⟩
 have hB := heap_below (heap_new (w.alloc _) _ rfl) hb
 simp only [World.size_alloc] at hB
 obtain ⟨g0, g1, g2, g3, g4⟩ := box2 hB
 go_wp2
 refine bodyPost_ret (v := .agg #[.bool s1, .slice A1 n1 c1]) (by simp [results, Tryz.results158, go_sem, g0, g1]) rfl ⟨s1, A1, n1, c1, rfl, ?_, ?_⟩
 ·rw [<- sg_not]
  exact hv.box2 hB (by decide) _ _
 ·go_grown
  exact below_then hb (by go_grown) (by simp only [World.size_alloc]; omega)
end Go.Proofs.YthjlleifpnpfgaaGreatDoor
namespace Go.Proofs.YthjlleifpnpfgaaGreatDoor
open Nmb Work
set_option linter.unusedVariables false
set_option linter.unusedSimpArgs false
def bs (l : List UInt8) : ByteArray := ⟨l.toArray⟩
def eS : ByteArray := ⟨#[]⟩
def wrdS (s : ByteArray) : List ByteArray := (pcs 32 s.data.toList).map bs
def wd (L : List ByteArray) (i : Nat) : ByteArray := L.getD i eS
def nOk (s : ByteArray) : Bool := decide (s.size <= 4) && digs s.data.toList && !(decide (1 < s.size) && decide (byA s.data.toList 0 = 48))
def nVal (s : ByteArray) : Int := if nOk s = true then ((dv s.data.toList : Nat) : Int) else 0
def yOk (s : ByteArray) : Bool := nOk s && decide (nVal s <= 255)
def undS (s : ByteArray) : ByteArray := if s = ⟨#[45]⟩ then eS else s
def wFixed : ByteArray := ⟨#[102, 105, 120, 101, 100]⟩
def wMarked : ByteArray := ⟨#[109, 97, 114, 107, 101, 100]⟩
def wKind : ByteArray := ⟨#[107, 105, 110, 100]⟩
def wEnds : ByteArray := ⟨#[101, 110, 100, 115]⟩
def wText : ByteArray := ⟨#[116, 101, 120, 116]⟩
def wNumber : ByteArray := ⟨#[110, 117, 109, 98, 101, 114]⟩
def wDay : ByteArray := ⟨#[100, 97, 121]⟩
def wLeft : ByteArray := ⟨#[108, 101, 102, 116]⟩
def wRight : ByteArray := ⟨#[114, 105, 103, 104, 116]⟩
def wNeed : ByteArray := ⟨#[110, 101, 101, 100]⟩
structure FSt where
 f : Fmt
 begun : Bool
 ended : Bool
def fmt0 : Fmt := ⟨0, 0, [], eS, eS, eS, eS⟩
def st0 : FSt := ⟨fmt0, false, false⟩
def pK (kind : Int) : Nat := if kind = 2 ∨ kind = 3 then 1 else 0
def sK (mark kind : Int) : Nat := if mark = 0 /\ kind ≠ 3 then 2 else 0
def needB (L : List ByteArray) (b : Nat) : Bool := decide (L.length = b + 1) && decide (wd L b = wNeed)
def colOk (mark kind : Int) (L : List ByteArray) : Bool :=
 (decide (L.length = 2 + pK kind + sK mark kind) || needB L (2 + pK kind + sK mark kind)) && nOk (wd L 1) && (decide (pK kind = 0) || nOk (wd L 2)) &&
  (decide (sK mark kind = 0) || (decide (wd L (2 + pK kind) = wLeft) || decide (wd L (2 + pK kind) = wRight)) && yOk (wd L (3 + pK kind)))
def colW (mark kind : Int) (L : List ByteArray) : Col :=
 ⟨wd L 0, kind, nVal (wd L 1), if kind = 2 then nVal (wd L 2) else 0, if kind = 3 then nVal (wd L 2) else 0,
  decide (sK mark kind ≠ 0) && decide (wd L (2 + pK kind) = wRight), if sK mark kind ≠ 0 then nVal (wd L (3 + pK kind)) % 256 else 0, needB L (2 + pK kind + sK mark kind)⟩
def addCol : List RKd -> Col -> List RKd
 | [], _ => []
 | [k], c => [{ k with fields := k.fields ++ [c] }]
 | k :: x :: r, c => k :: addCol (x :: r) c
def kindW (s : ByteArray) : Int := if s = wText then 1 else if s = wNumber then 2 else if s = wDay then 3 else 0
def frstF (st : FSt) (h : ByteArray) (L : List ByteArray) : Option FSt :=
 if h = wFixed then if L.length = 0 then some { st with begun := true } else none
 else if h = wMarked then
  if L.length = 2 /\ yOk (wd L 0) = true /\ yOk (wd L 1) = true /\ nVal (wd L 0) ≠ 0 then some ⟨{ st.f with mark := nVal (wd L 0), quote := nVal (wd L 1) }, true, st.ended⟩ else none
 else none
def wordsF (st : FSt) (h : ByteArray) (L : List ByteArray) : Option FSt :=
 if st.begun = false then frstF st h L
 else if h = wKind then
  if L.length = 3 /\ nOk (wd L 1) = true then some { st with f := { st.f with kinds := st.f.kinds ++ [⟨wd L 0, [], nVal (wd L 1), undS (wd L 2)⟩] } } else none
 else if h = wEnds then
  if L.length = 4 then some ⟨{ st.f with head := undS (wd L 0), tail := undS (wd L 1), count := undS (wd L 2), sum := undS (wd L 3) }, st.begun, true⟩ else none
 else if kindW h ≠ 0 /\ st.f.kinds ≠ [] /\ colOk st.f.mark (kindW h) L = true then some { st with f := { st.f with kinds := addCol st.f.kinds (colW st.f.mark (kindW h) L) } }
 else none
def lineF (st : FSt) (s : ByteArray) : Option FSt :=
 if (wrdS s).any (fun w => decide (w = eS)) = true ∨ st.ended = true then none else wordsF st (wd (wrdS s) 0) (wrdS s).tail
def lnsE (t : List UInt8) : Bool := decide (t = []) || decide (t.getLast? = some 10)
def lnsL (t : List UInt8) : List (List UInt8) := if t = [] then [] else if t.getLast? = some 10 then pcs 10 t.dropLast else pcs 10 t
def linesF (e : Bool) : FSt -> Int -> List (List UInt8) -> FSt ⊕ Int
 | st, _, [] => .inl st
 | st, i, s :: r => match lineF st (bs s) with
  | none => .inr (i + 1)
  | some st' => if e = false /\ r = [] then .inr (i + 1) else linesF e st' (i + 1) r
def readF (t : ByteArray) : Fmt × Int × Int :=
 if 500000 < t.size then (fmt0, 0, 2)
 else match linesF (lnsE t.data.toList) st0 0 (lnsL t.data.toList) with
  | .inr n => (fmt0, n, 10)
  | .inl st => if st.ended = false then (fmt0, (lnsL t.data.toList).length + 1, 10) else if checkF st.f ≠ 0 then (fmt0, 0, checkF st.f) else (st.f, 0, 0)
theorem wrd_len (s : ByteArray) : 0 < (wrdS s).length := by
 unfold wrdS
 rw [List.length_map]
 exact List.length_pos_iff.2 (pcs_ne _ _)
theorem wd_sz {L : List ByteArray} {B : Nat} (h : ∀ s ∈ L, s.size <= B) (i : Nat) : (wd L i).size <= B := by
 unfold wd
 rw [List.getD_eq_getElem?_getD]
 cases e : L[i]? with
 | none => show (0 : Nat) <= B; omega
 | some x => exact h x (List.mem_of_getElem? e)
theorem bs_toList (l : List UInt8) : (bs l).data.toList = l := by simp [bs]
theorem bs_size (l : List UInt8) : (bs l).size = l.length := by simp [bs, ByteArray.size]
theorem bs_self (s : ByteArray) : bs s.data.toList = s := by cases s; simp [bs]
theorem wrd_sz (s : ByteArray) : ∀ w ∈ wrdS s, w.size <= s.size := by
 intro w hw
 unfold wrdS at hw
 obtain ⟨l, hl, rfl⟩ := List.mem_map.1 hw
 have := pcs_sum 32 _ l hl
 rw [bs_size]
 simpa using this
theorem nOk_bd {s : ByteArray} (h : nOk s = true) : s.size <= 4 /\ digs s.data.toList = true /\ ¬ (1 < s.size /\ byA s.data.toList 0 = 48) := by
 unfold nOk at h
 simp only [Bool.and_eq_true, Bool.not_eq_true', decide_eq_true_eq, Bool.and_eq_false_iff, decide_eq_false_iff_not] at h
 obtain ⟨⟨h1, h2⟩, h3⟩ := h
 exact ⟨h1, h2, fun k => by rcases h3 with h3 | h3; exact h3 k.1; exact h3 k.2⟩
theorem nVal_bd (s : ByteArray) : 0 <= nVal s /\ nVal s <= 9999 := by
 unfold nVal
 split
 next h =>
  obtain ⟨h1, h2, -⟩ := nOk_bd h
  have h3 := dvF_lt s.data.toList 0 (digs_mem h2)
  have h4 : s.data.toList.length = s.size := by simp
  rw [h4, Nat.zero_add, Nat.one_mul] at h3
  have h5 : 10 ^ s.size <= 10 ^ 4 := Nat.pow_le_pow_right (by decide) h1
  have h6 : dv s.data.toList = dvF s.data.toList 0 := rfl
  omega
 next => omega
theorem addCol_len : ∀ (ks : List RKd) (c : Col), (addCol ks c).length = ks.length
 | [], _ => rfl
 | [k], _ => rfl
 | k :: x :: r, c => by
  have := addCol_len (x :: r) c
  show (addCol (x :: r) c).length + 1 = _
  rw [this]; rfl
theorem addCol_at : ∀ {ks : List RKd} {c : Col} {j : Nat}, j + 1 < ks.length -> kA (addCol ks c) j = kA ks j
 | [], _, _, h => by simp at h
 | [k], _, _, h => by simp at h
 | k :: x :: r, c, 0, h => rfl
 | k :: x :: r, c, j + 1, h => by
  have := addCol_at (ks := x :: r) (c := c) (j := j) (by simpa using h)
  show kA (addCol (x :: r) c) j = kA (x :: r) j
  exact this
theorem addCol_last : ∀ {ks : List RKd} {c : Col}, ks ≠ [] -> kA (addCol ks c) (ks.length - 1) = { kA ks (ks.length - 1) with fields := (kA ks (ks.length - 1)).fields ++ [c] }
 | [], _, h => absurd rfl h
 | [k], _, _ => rfl
 | k :: x :: r, c, h => by
  have := addCol_last (ks := x :: r) (c := c) (by simp)
  simp only [List.length_cons, Nat.add_sub_cancel] at this ⊢
  show kA (addCol (x :: r) c) r.length = _
  rw [this]
  rfl
end Go.Proofs.YthjlleifpnpfgaaGreatDoor
