
/- The walks of package desk: sending. -/
import Derived.Test.YtlkidhfjkgppoaaDoorO3
namespace Go.Proofs.YtlkidhfjkgppoaaDoor
open Go.RowKit Limb Work
set_option linter.unusedVariables false
set_option linter.unusedSimpArgs false

def sentV (s : Snt) : Value := .agg #[.int .i64 s.tries, .int .i64 s.done, .int .i64 s.gave]
def RetSend (o : Option Snt) (w : World) (e : Ending) (w' : World) : Prop := ∃ s b, e = .returned (.tuple #[sentV s, .bool b]) ∧ (match o with | none => b = false | some s0 => b = true ∧ s = s0) ∧ Below w.heap.size w w'
theorem RetSend.no {o : Option Snt} {w w' : World} (x y z : Int) (h : o = none) (hb : Below w.heap.size w w') : RetSend o w (.returned (.tuple #[.agg #[.int .i64 x, .int .i64 y, .int .i64 z], .bool false])) w' := ⟨⟨x, y, z⟩, false, rfl, by rw [h], hb⟩
theorem RetSend.yes {o : Option Snt} {w w' : World} {x y z : Int} (h : o = some ⟨x, y, z⟩) (hb : Below w.heap.size w w') : RetSend o w (.returned (.tuple #[.agg #[.int .i64 x, .int .i64 y, .int .i64 z], .bool true])) w' := ⟨⟨x, y, z⟩, true, rfl, by rw [h]; exact ⟨rfl, rfl⟩, hb⟩
theorem send_step {os : List Otg} {l : ByteArray} {ws : List Int} {t k : Int} : sendL os l ws t k = if 2000000000000000 < t then none else if ansB os l t then some ⟨k + 1, t, -1⟩ else match ws with | [] => some ⟨k + 1, -1, t⟩ | x :: r => sendL os l r (t + x) (k + 1) := by
  cases ws <;> rfl

set_option maxHeartbeats 4000000 in
set_option maxRecDepth 100000 in
theorem sending_c (B A : Option Addr) (d c : Nat) (ws : List Int) (os : List Otg) (l : ByteArray) (t0 : Int) (w : World) (hw : ws.length ≤ 19) (hr : ∀ x ∈ ws, 1 ≤ x ∧ x ≤ 1000000) (hn : os.length ≤ 500) (ht : 0 ≤ t0 ∧ t0 ≤ 4000000000000000) (hi : Ints w B ws.length ws) (ho : Outs w A os) :
    Calls Tryd.prog 27 #[.slice B ws.length d, .slice A os.length c, .string l, .int .i64 t0] w (RetSend (sendL os l ws t0 0) w) := by
  obtain ⟨S, hS⟩ : ∃ S, sendL os l ws t0 0 = S := ⟨_, rfl⟩
  have HS := Lib.hid hS
  have HW := Lib.hid hr
  have HA := Lib.hid (fun t w (h : Outs w A os) => answers_c A c os l t w hn h)
  have HI := Lib.hid hi; have HO := Lib.hid ho
  obtain ⟨N, hN⟩ : ∃ N, ws.length = N := ⟨_, rfl⟩
  have HN := Lib.hid hN
  obtain ⟨M, hM⟩ : ∃ M, os.length = M := ⟨_, rfl⟩
  rw [hM] at HA
  rw [hS, hM]
  rw [hN] at hw ⊢
  obtain ⟨t1, t2⟩ := ht
  clear hS hr hn hi ho hN hM
  go_enter Tryd.func27, Tryd.ntmps27
  go_wp2
  have hX := heap_old (heap_new w (.cells #[.int .i64 0, .int .i64 0, .int .i64 0] 33) rfl) (.cells #[.int .i64 0, .int .i64 (-1), .int .i64 (-1)] 33)
  have hY := heap_new (w.alloc (.cells #[.int .i64 0, .int .i64 0, .int .i64 0] 33)) (.cells #[.int .i64 0, .int .i64 (-1), .int .i64 (-1)] 33) (g := w.heap.size + 1) (by simp)
  have hb0 : Below w.heap.size w ((w.alloc (.cells #[.int .i64 0, .int .i64 0, .int .i64 0] 33)).alloc (.cells #[.int .i64 0, .int .i64 (-1), .int .i64 (-1)] 33)) := by go_grown
  have hsz0 : w.heap.size + 2 ≤ ((w.alloc (.cells #[.int .i64 0, .int .i64 0, .int .i64 0] 33)).alloc (.cells #[.int .i64 0, .int .i64 (-1), .int .i64 (-1)] 33)).heap.size := by simp
  generalize (w.alloc (.cells #[.int .i64 0, .int .i64 0, .int .i64 0] 33)).alloc (.cells #[.int .i64 0, .int .i64 (-1), .int .i64 (-1)] 33) = w0 at hX hY hb0 hsz0 ⊢
  go_loopw [3, 11] (fun tv i wr => ∃ (k : Nat) (t : Int), k ≤ N ∧ i = .int .i64 k ∧ tv = .int .i64 t ∧ 0 ≤ t ∧ t ≤ 4000000000000000 ∧ Below w.heap.size w wr ∧ wr.heap[w.heap.size]? = some (.cells #[.int .i64 0, .int .i64 0, .int .i64 0] 33 (0, 0)) ∧ wr.heap[w.heap.size + 1]? = some (.cells #[.int .i64 k, .int .i64 (-1), .int .i64 (-1)] 33 (0, 0)) ∧ Hid (sendL os l (ws.drop k) t k = S)) (fun _ i _ => N - (intOf i).toNat)
  case atStart => exact ⟨0, t0, Nat.zero_le _, rfl, rfl, t1, t2, hb0, hX, hY, Lib.hid (by rw [List.drop_zero]; exact HS.out)⟩
  case round =>
    obtain ⟨k, t, hk, rfl, rfl, s1, s2, hb, hXr, hYr, HE⟩ := hrel
    obtain ⟨⟨x0, x1, x2⟩, ⟨x3, x4, x5⟩, x6⟩ := obox3 hXr
    obtain ⟨⟨y0, y1, y2⟩, ⟨y3, y4, y5⟩, y6⟩ := obox3 hYr
    have hE := HE.out
    rw [send_step] at hE
    by_cases hbig : 2000000000000000 < t
    · rw [if_pos hbig] at hE
      have HF := Lib.hid hE.symm
      clear hE
      go_wp2
      exact bodyPost_ret (v := .tuple #[.agg #[.int .i64 k, .int .i64 (-1), .int .i64 (-1)], .bool false]) (by simp [results, Tryd.results27, go_sem, x0, x1, x2]) rfl (RetSend.no _ _ _ HF.out (by go_grown))
    rw [if_neg hbig] at hE
    have hY1 : (wr.setCell ⟨w.heap.size + 1, 0, none⟩ (.int .i64 ((k : Int) + 1))).heap[w.heap.size + 1]? = some (.cells #[.int .i64 ((k : Int) + 1), .int .i64 (-1), .int .i64 (-1)] 33 (0, 0)) := by simpa using heap_set hYr 0 (.int .i64 ((k : Int) + 1))
    have hX1 : (wr.setCell ⟨w.heap.size + 1, 0, none⟩ (.int .i64 ((k : Int) + 1))).heap[w.heap.size]? = some (.cells #[.int .i64 0, .int .i64 0, .int .i64 0] 33 (0, 0)) := heap_far hXr (p := ⟨w.heap.size + 1, 0, none⟩) (by show w.heap.size ≠ w.heap.size + 1; omega) _
    have hB1 : Below w.heap.size w (wr.setCell ⟨w.heap.size + 1, 0, none⟩ (.int .i64 ((k : Int) + 1))) := hb.setCell (p := ⟨w.heap.size + 1, 0, none⟩) (by show w.heap.size ≤ w.heap.size + 1; omega) _
    have HAN := Lib.hid (HA.out t _ (HO.out.below hB1))
    have H1 := Lib.hid (And.intro hX1 (And.intro hY1 hB1))
    clear hX1 hY1 hB1
    cases han : ansB os l t with
    | true =>
      rw [han] at HAN hE
      have HF := Lib.hid hE.symm
      clear hE han
      go_wp2_with fail
      refine HAN.out.mono ?_
      rintro e w2 ⟨rfl, hb2⟩
      have hX2 := heap_below H1.out.1 hb2
      have hY2 := heap_below H1.out.2.1 hb2
      have hB2 := below_then hb2 H1.out.2.2 H1.out.2.2.size
      clear x0 x1 x2 x3 x4 x5 x6 y0 y1 y2 y3 y4 y5 y6
      obtain ⟨⟨x0, x1, x2⟩, ⟨x3, x4, x5⟩, x6⟩ := obox3 hX2
      obtain ⟨⟨y0, y1, y2⟩, ⟨y3, y4, y5⟩, y6⟩ := obox3 hY2
      go_wp2
      exact bodyPost_ret (v := .tuple #[.agg #[.int .i64 ((k : Int) + 1), .int .i64 t, .int .i64 (-1)], .bool true]) (by simp [results, Tryd.results27, go_sem, x0, x1, x2]) rfl (RetSend.yes HF.out (by go_grown))
    | false =>
    rw [han] at HAN hE
    clear han
    rcases Nat.lt_or_ge k N with hlt | hge
    · have hltw : k < ws.length := by rw [HN.out]; exact hlt
      rw [if_neg (by decide), List.drop_eq_getElem_cons hltw] at hE
      have hrg := HW.out ws[k] (List.getElem_mem hltw)
      rw [hol_get hltw] at hE hrg
      have HE2 := Lib.hid hE
      have hkN : ((k : Int) == (N : Int)) = false := by simp; omega
      obtain ⟨b, off, rfl, hbl, hcs⟩ := HI.out.2.2 (by omega)
      have hck := hcs k hltw
      obtain ⟨x, hx⟩ : ∃ x, hol ws k = x := ⟨_, rfl⟩
      rw [hx] at hck hrg
      have HX := Lib.hid hx
      clear hE hx hcs
      go_wp2_with fail
      refine HAN.out.mono ?_
      rintro e w2 ⟨rfl, hb2⟩
      have hX2 := heap_below H1.out.1 hb2
      have hY2 := heap_below H1.out.2.1 hb2
      have hB2 := below_then hb2 H1.out.2.2 H1.out.2.2.size
      have hc2 := (hB2.cell (p := ⟨b, off + k, none⟩) hbl).trans hck
      clear x0 x1 x2 x3 x4 x5 x6 y0 y1 y2 y3 y4 y5 y6 hck hltw
      go_wp2
      go_roundw
      case rel => exact ⟨k + 1, t + x, by omega, by go_num, rfl, by omega, by omega, hB2, hX2, by simpa using hY2, Lib.hid (by rw [← HE2.out, HX.out]; rfl)⟩
      case measure => simp [intOf]; omega
    · obtain rfl : k = N := by omega
      have hkN : ((k : Int) == (k : Int)) = true := by simp
      rw [if_neg (by decide), List.drop_eq_nil_of_le (by rw [HN.out]; exact Nat.le_refl _)] at hE
      have HF := Lib.hid hE.symm
      clear hE
      go_wp2_with fail
      refine HAN.out.mono ?_
      rintro e w2 ⟨rfl, hb2⟩
      have hX2 := heap_below H1.out.1 hb2
      have hY2 := heap_below H1.out.2.1 hb2
      have hB2 := below_then hb2 H1.out.2.2 H1.out.2.2.size
      clear x0 x1 x2 x3 x4 x5 x6 y0 y1 y2 y3 y4 y5 y6
      obtain ⟨⟨x0, x1, x2⟩, ⟨x3, x4, x5⟩, x6⟩ := obox3 hX2
      obtain ⟨⟨y0, y1, y2⟩, ⟨y3, y4, y5⟩, y6⟩ := obox3 hY2
      go_wp2
      exact bodyPost_ret (v := .tuple #[.agg #[.int .i64 ((k : Int) + 1), .int .i64 (-1), .int .i64 t], .bool true]) (by simp [results, Tryd.results27, go_sem, x0, x1, x2]) rfl (RetSend.yes HF.out (by go_grown))
end Go.Proofs.YtlkidhfjkgppoaaDoor
