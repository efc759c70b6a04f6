
/- Archive's walks: Number at sixteen digits, head at a right record's line, the words' bytes. -/
import Derived.Test.YtcfhaljkemaefaaGreatDoorARE
import Derived.Test.YtcfhaljkemaefaaGreatDoorFE
import Derived.Test.YtcfhaljkemaefaaGreatDoorF9
import Derived.Test.YtcfhaljkemaefaaGreatDoorShelf6
namespace Go.Proofs.YtcfhaljkemaefaaGreatDoor
open Go.RowKit Limb Nmb Work
set_option linter.unusedVariables false
set_option linter.unusedSimpArgs false

set_option maxHeartbeats 1000000 in
set_option maxRecDepth 100000 in
theorem num16_c (s : ByteArray) (w : World) (hs : s.size ≤ 16) (hd : digs s.data.toList = true) (hz : ¬ (1 < s.data.toList.length ∧ s.data.toList.headD 48 = 48)) :
    Calls Tryz.prog 40 #[.string s, .int .i64 16] w fun e w' => e = .returned (.tuple #[.int .i64 ((dv s.data.toList : Nat) : Int), .bool true]) ∧ Below w.heap.size w w' := by
  have HD := Lib.hid (fun w => isdigs_c s w (by omega))
  rw [hd] at HD
  have HA := Lib.hid (fun w => atoi_c s w (by omega) hd)
  have h0 := (digs_yes hd).1
  have hl : s.data.toList.length = s.size := by simp
  have hz1 : 0 < s.size := by omega
  have h2 : ¬ (16 : Int) < (s.size : Int) := by omega
  have hb0 : s.data.toList.headD 48 = s[0] := by
    have key : ∀ (l : List UInt8) (h : 0 < l.length), l.headD 48 = l[0] := fun l h => by cases l with | nil => simp at h | cons a l => rfl
    have := key s.data.toList (by omega)
    rw [this]
    rfl
  obtain ⟨N, hN⟩ : ∃ x, dv s.data.toList = x := ⟨_, rfl⟩
  rw [hN] at HA ⊢
  by_cases h6 : 1 < s.size
  · have g1 : (1 : Int) < (s.size : Int) := by omega
    have g2 : ((s[0].toNat : Int) == 48) = false := by
      have : ¬ (s[0].toNat : Int) = 48 := fun e => hz ⟨by omega, by rw [hb0]; exact UInt8.toNat_inj.1 (show s[0].toNat = 48 by omega)⟩
      simpa using this
    clear hd hb0 hl h0 h6 hz hN
    go_enter Tryz.func40, Tryz.ntmps40
    go_wp2_with fail
    refine (HD.out _).mono ?_
    rintro e w2 ⟨rfl, rfl⟩
    go_wp2_with fail
    refine (HA.out _).mono ?_
    rintro e w3 ⟨rfl, hb3⟩
    go_wp2
    go_quiet (fail)
    go_wp2
    go_ret2
    exact ⟨rfl, below_drewN hb3 _⟩
  · have g1 : ¬ (1 : Int) < (s.size : Int) := by omega
    clear hd hb0 hl h0 h6 hz hN
    go_enter Tryz.func40, Tryz.ntmps40
    go_wp2_with fail
    refine (HD.out _).mono ?_
    rintro e w2 ⟨rfl, rfl⟩
    go_wp2_with fail
    refine (HA.out _).mono ?_
    rintro e w3 ⟨rfl, hb3⟩
    go_wp2
    go_quiet (fail)
    go_wp2
    go_ret2
    exact ⟨rfl, below_drewN hb3 _⟩
set_option maxHeartbeats 1000000 in
set_option maxRecDepth 100000 in
theorem nocont_c (b n c : Nat) (zs : List ByteArray) (x : ByteArray) (w : World) (hz : n ≤ zs.length) (hn : n ≤ 1000) (hc : ∀ j, j < zs.length → w.cell? ⟨b, 0 + j, none⟩ = some (.string (zs.getD j ByteArray.empty))) (hno : ∀ j, j < n → zs.getD j ByteArray.empty ≠ x) :
    Calls Tryz.prog 66 #[.slice (some ⟨b, 0, none⟩) n c, .string x] w fun e w' => e = .returned (.bool false) ∧ w' = w := by
  have HI := Lib.hid (Tryz.slices_Index_string b 0 n c zs x w hz (by omega) hc)
  rw [Lib.idxOfS_miss zs n x hno] at HI
  clear hc hno hz hn
  go_enter Tryz.func66, Tryz.ntmps66
  go_wp2_with fail
  refine HI.out.mono ?_
  rintro e w2 ⟨rfl, rfl⟩
  go_wp2
  go_ret
  exact ⟨rfl, rfl⟩
theorem seen_c (s : ByteArray) (w : World) (hs : s.size ≤ 9223372036854775807) (h : inL s.data.toList 33 126 = true) :
    Calls Tryz.prog 38 #[.string s] w fun e w' => e = .returned (.bool false) ∧ w = w' := by
  have HI := Lib.hid (inb_c s 33 126 w hs)
  rw [show inL s.data.toList ((33 : Nat) : Int) ((126 : Nat) : Int) = true from h] at HI
  clear hs h
  go_enter Tryz.func38, Tryz.ntmps38
  go_wp2_with fail
  refine HI.out.mono ?_
  rintro e w2 ⟨rfl, rfl⟩
  go_wp2
  go_ret
  exact ⟨rfl, rfl⟩
set_option maxHeartbeats 1000000 in
set_option maxRecDepth 100000 in
theorem seenall_c (b n c : Nat) (zs : List ByteArray) (w : World) (hn : n ≤ 1000) (hc : ∀ j, j < n → w.cell? ⟨b, j, none⟩ = some (.string (wd zs j))) (hs : ∀ j, j < n → (wd zs j).size ≤ 9223372036854775807) (h : ∀ j, j < n → inL (wd zs j).data.toList 33 126 = true) :
    Calls Tryz.prog 37 #[.slice (some ⟨b, 0, none⟩) n c, .func (.func 38) #[] #[]] w fun e w' => e = .returned (.bool false) ∧ w = w' := by
  have HX : Calls Tryz.prog 67 #[.slice (some ⟨b, 0, none⟩) n c, .func (.func 38) #[] #[]] w fun e w' => e = .returned (.int .i64 (-1)) ∧ w = w' := by
    have HC := Lib.hid hc
    have HS := Lib.hid (fun j (hj : j < n) w => seen_c (wd zs j) w (hs j hj) (h j hj))
    clear hc hs h
    go_enter Tryz.func67, Tryz.ntmps67
    go_wp2
    go_loopw [8] (fun i wr => ∃ k : Nat, k ≤ n ∧ i = .int .i64 k ∧ wr = w) (fun i _ => n - (intOf i).toNat)
    case atStart => exact ⟨0, Nat.zero_le _, rfl, rfl⟩
    case round =>
      obtain ⟨k, hk, rfl, rfl⟩ := hrel
      rcases Nat.lt_or_ge k n with hlt | hge
      · have ck := HC.out k hlt
        have HSK := Lib.hid (HS.out k hlt wr)
        obtain ⟨x, hx⟩ : ∃ x, wd zs k = x := ⟨_, rfl⟩
        rw [hx] at ck HSK
        clear hx
        go_wp2_with fail
        refine HSK.out.mono ?_
        rintro e w2 ⟨rfl, rfl⟩
        go_wp2
        go_roundw
        case rel => exact ⟨k + 1, by omega, by go_num, by trivial⟩
        case measure => simp [intOf]; omega
      · obtain rfl : k = n := by omega
        go_wp2
        go_ret
        exact ⟨rfl, rfl⟩
  have HI := Lib.hid HX
  clear hc hs h HX
  go_enter Tryz.func37, Tryz.ntmps37
  go_wp2_with fail
  refine HI.out.mono ?_
  rintro e w2 ⟨rfl, rfl⟩
  go_wp2
  go_ret
  exact ⟨rfl, rfl⟩

/-- The words of a right record's line. -/
def hdW (r : Rec) : List ByteArray := [bs (Lib.itoa r.time), r.kind, r.key, r.dig, bs (restA r)]
theorem hdW_split {r : Rec} (h : RecK r) : Lib.splitB ⟨#[32]⟩ 0 4 (bs (lineA r)) = hdW r := by
  have h1 := Lib.splitB_data ⟨#[32]⟩ 0 4 (bs (lineA r))
  have h2 : Lib.splitK (⟨#[32]⟩ : ByteArray).data.toList 0 4 (bs (lineA r)).data.toList = [Lib.itoa r.time, r.kind.data.toList, r.key.data.toList, r.dig.data.toList, restA r] := line_cut h
  rw [h2] at h1
  have h3 := congrArg (List.map bs) h1
  rw [List.map_map] at h3
  have h4 : ∀ L : List ByteArray, L.map (bs ∘ fun x => x.data.toList) = L := fun L => by
    conv => rhs; rw [← List.map_id L]
    exact List.map_congr_left fun x _ => bs_self x
  rw [h4] at h3
  rw [h3]
  simp only [List.map_cons, List.map_nil, bs_self]
  rfl
theorem hdW_ok {r : Rec} (h : RecK r) : ∀ j, j < 4 → wd (hdW r) j ≠ ⟨#[]⟩ ∧ inL (wd (hdW r) j).data.toList 33 126 = true ∧ (wd (hdW r) j).size ≤ 40 := by
  have h1 := word_seen h
  have key : ∀ x : ByteArray, x.data.toList ∈ [Lib.itoa r.time, r.kind.data.toList, r.key.data.toList, r.dig.data.toList] → x ≠ ⟨#[]⟩ ∧ inL x.data.toList 33 126 = true ∧ x.size ≤ 40 := by
    intro x hx
    obtain ⟨k1, k2, k3⟩ := h1 _ hx
    exact ⟨fun e => k1 (by rw [e]), k2, by simpa using k3⟩
  intro j hj
  rcases j with _ | _ | _ | _ | j
  · exact key _ (List.mem_cons_self ..)
  · exact key _ (.tail _ (.head _))
  · exact key _ (.tail _ (.tail _ (.head _)))
  · exact key _ (.tail _ (.tail _ (.tail _ (.head _))))
  · omega
set_option maxHeartbeats 1000000 in
set_option maxRecDepth 100000 in
theorem headw_c (r : Rec) (m : Int) (w : World) (h : RecK r) (hm : w.cell? ⟨0, 0, none⟩ = some (.int .i64 m)) :
    Calls Tryz.prog 36 #[.string (bs (lineA r)), .int .i64 4] w fun e w' => e = .returned (.tuple #[.slice (some ⟨w.heap.size, 0, none⟩) 4 5, .string (bs (restA r)), .bool true]) ∧ w'.heap[w.heap.size]? = some (.cells ((hdW r).map Value.string).toArray 9 (0, 0)) ∧ Below w.heap.size w w' := by
  have hl := line_len h
  have hsz : (bs (lineA r)).size = (lineA r).length := rfl
  have h4 : 4 ≤ (lineA r).length := by rw [line_eq]; simp only [List.length_append, List.length_cons]; omega
  have HS := Lib.hid (Tryz.strings_SplitN (bs (lineA r)) ⟨#[32]⟩ 5 m w (by omega) hm (Nat.le_refl 1) (by omega) (by omega))
  rw [show min 5 ((bs (lineA r)).size + 1) = 5 by omega, show 5 - 1 = 4 from rfl, hdW_split h] at HS
  have HOK := Lib.hid (hdW_ok h)
  have hne : bs (restA r) ≠ ⟨#[]⟩ := fun e => rest_ne r (by have := congrArg (fun x : ByteArray => x.data.toList) e; simpa [bs] using this)
  have e5 : (bs (restA r)).toList.isEmpty = false := by rw [emp_dec]; exact decide_eq_false hne
  obtain ⟨L, hL⟩ : ∃ L, hdW r = L := ⟨_, rfl⟩
  have h45 : wd L 4 = bs (restA r) := by rw [← hL]; rfl
  have hll : L.length = 5 := by rw [← hL]; rfl
  rw [hL] at HS HOK ⊢
  obtain ⟨R, hR⟩ : ∃ R, bs (restA r) = R := ⟨_, rfl⟩
  obtain ⟨s, hs⟩ : ∃ s, bs (lineA r) = s := ⟨_, rfl⟩
  rw [hs] at HS ⊢
  rw [hR] at e5 h45 ⊢
  have HLL := Lib.hid hll
  have H45 := Lib.hid h45
  rw [hll] at HS
  have hcel : Lib.cellsOf L 5 = (L.map Value.string).toArray := by unfold Lib.cellsOf; rw [hll]; simp
  rw [hcel] at HS
  clear hl hsz h4 hm hne hL h45 hll hR hs hcel
  go_enter Tryz.func36, Tryz.ntmps36
  go_wp2_with fail
  refine HS.out.mono ?_
  rintro e w1 ⟨rfl, rfl⟩
  have hX := Lib.hid (heap_new w (.cells (L.map Value.string).toArray 9) rfl)
  have hb1 := Lib.hid (show Below w.heap.size w (w.alloc (.cells (L.map Value.string).toArray 9)) from (Below.refl _ _).alloc (Nat.le_refl _) _)
  have hbk : w.heap.size < (w.alloc (.cells (L.map Value.string).toArray 9)).heap.size := by simp
  generalize w.alloc (.cells (L.map Value.string).toArray 9) = w1 at hX hb1 hbk ⊢
  have HC := Lib.hid (show ∀ j, j < 5 → w1.cell? ⟨w.heap.size, j, none⟩ = some (.string (wd L j)) from fun j hj => by
    obtain ⟨b, off, e, -, hc⟩ := (sts_new hX.out).cells (by rw [HLL.out]; omega)
    injection e with e
    injection e with e1 e2
    subst e1; subst e2
    have := hc j (by rw [HLL.out]; omega)
    rwa [Nat.zero_add] at this)
  have HNC := Lib.hid (nocont_c w.heap.size 4 5 L ⟨#[]⟩ w1 (by rw [HLL.out]; omega) (by omega) (fun j hj => by rw [Nat.zero_add]; exact HC.out j (by rw [← HLL.out]; exact hj)) (fun j hj => (HOK.out j hj).1))
  have c4 := HC.out 4 (by omega)
  rw [H45.out] at c4
  clear hbk
  go_wp2_with fail
  refine HNC.out.mono ?_
  rintro e w2 ⟨rfl, rfl⟩
  go_wp2
  go_quiet (fail)
  go_wp2
  go_ret3
  exact ⟨rfl, hX.out, below_drewN hb1.out _⟩
end Go.Proofs.YtcfhaljkemaefaaGreatDoor
