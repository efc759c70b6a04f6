
/- Least of the program, Normal of the reference, Text at numbers below 0. (Printed by genV1.py.) -/
import Derived.Test.YtbnjejenejoibaaGreatDoorT5
import Derived.Test.YtbnjejenejoibaaGreatDoorT3
import Derived.Deep.LoopGhost
namespace Go.Proofs.YtbnjejenejoibaaGreatDoor
open Go.RowKit Limb Nmb Work
set_option linter.unusedVariables false
set_option linter.unusedSimpArgs false
def RetLe (r : Int × Int) (w : World) (e : Ending) (w' : World) : Prop := e = .returned (.agg #[.int .i64 r.1, .int .i64 r.2]) /\ Below w.heap.size w w'
set_option maxHeartbeats 1000000 in
set_option maxRecDepth 100000 in
theorem least_c (u : Int) (q : Nat) (w : World) (h : decB u (q : Int) = true) :
  Calls Tryz.prog 199 #[.agg #[.int .i64 u, .int .i64 (q : Int)]] w (RetLe (leastF u q) w) := by
 have HU := Lib.hid h
 clear h
 go_enter Tryz.func199, Tryz.ntmps199
 go_wp2_with fail
 have hN0 := heap_old (heap_new w (.cells #[.int .i64 u, .int .i64 (q : Int)] 106) rfl) (.cells #[.int .i64 0, .int .i64 0] 106)
 have hZ0 := heap_new (w.alloc (.cells #[.int .i64 u, .int .i64 (q : Int)] 106)) (.cells #[.int .i64 0, .int .i64 0] 106) (g := w.heap.size + 1) (by simp)
 have hBN : Below w.heap.size w ((w.alloc (.cells #[.int .i64 u, .int .i64 (q : Int)] 106)).alloc (.cells #[.int .i64 0, .int .i64 0] 106)) := by go_grown
 obtain ⟨N, hN⟩ : ∃ N, w.heap.size = N := ⟨_, rfl⟩
 have HBN := Lib.hid hBN
 rw [hN] at hN0 hZ0 ⊢
 have hNz : w.heap.size <= N := by omega
 go_loopg [] q (fun k wr => ∃ v : Int, decB v (k : Int) = true /\ leastF v k = leastF u q /\ wr.heap[N]? = some (.cells #[.int .i64 v, .int .i64 (k : Int)] 106 (0, 0)) /\ wr.heap[N + 1]? = some (.cells #[.int .i64 0, .int .i64 0] 106 (0, 0)) /\ Hid (Below w.heap.size w wr))
 case atStart => exact ⟨u, HU.out, rfl, hN0, hZ0, HBN⟩
 case round =>
  clear hN0 hZ0 hBN HBN
  obtain ⟨v, hd, hl, hX, hZ, HB⟩ := hrel
  have HD := Lib.hid hd; have HL := Lib.hid hl
  obtain ⟨hv1, hv2, hv3, hv4⟩ := decB_out hd
  obtain ⟨a0, a1, a2, a3, a5⟩ := box2 hX
  obtain ⟨b0, b1, b2, b3, b5⟩ := box2 hZ
  have hzz : w.heap.size <= wr.heap.size := HB.out.size
  clear hd hl
  rcases gk with _ | k
  ·have HE := Lib.hid (show leastF u q = (v, 0) from HL.out.symm)
   go_wp2
   have hz : ((wr.setCell ⟨N + 1, 0, none⟩ (.int .i64 v)).setCell ⟨N + 1, 1, none⟩ (.int .i64 0)).heap[N + 1]? = some (.cells #[.int .i64 v, .int .i64 0] 106 (0, 0)) := heap_set (heap_set hZ 0 _) 1 _
   obtain ⟨r0, r1, -, -, -⟩ := box2 hz
   refine bodyPost_ret (v := .agg #[.int .i64 v, .int .i64 0]) (by simp [results, Tryz.results199, go_sem, r0, r1]) rfl ⟨by rw [HE.out], (HB.out.setCell (p := ⟨N + 1, 0, none⟩) (by show w.heap.size <= N + 1; omega) _).setCell (p := ⟨N + 1, 1, none⟩) (by show w.heap.size <= N + 1; omega) _⟩
  ·by_cases h10 : v.tmod 10 = 0
   ·have he := tmod_ten.1 h10
    have hx1 : -1000000000000000 <= v.tdiv 10 /\ v.tdiv 10 <= 1000000000000000 := by rw [tdiv_ten he]; omega
    have HX1 := Lib.hid (show leastF (v.tdiv 10) k = leastF u q by rw [<- HL.out, least_step he, tdiv_ten he])
    have HX2 := Lib.hid (show decB (v.tdiv 10) (k : Int) = true from decB_mk (by rw [tdiv_ten he]; omega))
    obtain ⟨x, hx⟩ : ∃ x, v.tdiv 10 = x := ⟨_, rfl⟩
    rw [hx] at HX1 HX2 hx1
    have hkk : ((k + 1 : Nat) : Int) - 1 = (k : Int) := by omega
    clear he
    go_wp2_with fail
    go_roundg k
    case measure => omega
    case rel => exact ⟨x, HX2.out, HX1.out, by have := heap_set (heap_set hX 0 (.int .i64 x)) 1 (.int .i64 (k : Int)); simpa using this, heap_far (heap_far hZ (p := ⟨N, 0, none⟩) (by simp) _) (p := ⟨N, 1, none⟩) (by simp) _, Lib.hid ((HB.out.setCell (p := ⟨N, 0, none⟩) hNz _).setCell (p := ⟨N, 1, none⟩) hNz _)⟩
   ·have HE := Lib.hid (show leastF u q = (v, (k : Int) + 1) by rw [<- HL.out, least_stop (fun hh => h10 (tmod_ten.2 hh))]; rfl)
    have h10' : (v.tmod 10 == 0) = false := beq_eq_false_iff_ne.2 h10
    clear h10
    go_wp2
    have hz : ((wr.setCell ⟨N + 1, 0, none⟩ (.int .i64 v)).setCell ⟨N + 1, 1, none⟩ (.int .i64 ((k : Int) + 1))).heap[N + 1]? = some (.cells #[.int .i64 v, .int .i64 ((k : Int) + 1)] 106 (0, 0)) := heap_set (heap_set hZ 0 _) 1 _
    obtain ⟨r0, r1, -, -, -⟩ := box2 hz
    refine bodyPost_ret (v := .agg #[.int .i64 v, .int .i64 ((k : Int) + 1)]) (by simp [results, Tryz.results199, go_sem, r0, r1]) rfl ⟨by rw [HE.out], (HB.out.setCell (p := ⟨N + 1, 0, none⟩) (by show w.heap.size <= N + 1; omega) _).setCell (p := ⟨N + 1, 1, none⟩) (by show w.heap.size <= N + 1; omega) _⟩
def RetTn (m : Nat) (w : World) (e : Ending) (w' : World) : Prop := e = .returned (.string (bs (sdig (-(m : Int))))) /\ Below w.heap.size w w'
set_option maxHeartbeats 2000000 in
set_option maxRecDepth 100000 in
theorem textn_c (w : World) {A : Option Addr} {n c : Nat} {m : Nat} (h : Big .u32 196 B32 w true A n c (-(m : Int))) (hm : m < 10 ^ 200) (hp : 0 < m) :
  Calls Tryz.prog 201 #[.agg #[.bool true, .slice A n c]] w (RetTn m w) := by
 obtain ⟨l, hd, hnc, hcm, gl, nl, sl, hz⟩ := h
 have hv : val B32 l = m := by unfold sg at hz; simp at hz; omega
 have hn : n <= 200 := by rw [<- hd.1]; exact small_len32 (neg := true) nl (by unfold Small; rw [sg_natAbs, hv]; exact hm)
 have h0 : 0 < n := by
  rcases Nat.eq_zero_or_pos n with h0 | h0
  ·subst h0
   have hl0 : l = [] := List.length_eq_zero_iff.1 hd.1
   subst hl0
   rw [val_nil] at hv
   omega
  ·exact h0
 ·have hmp : 0 < m := hp
  obtain ⟨i0, hi, hz0, hz1, hz2⟩ := info_parts Tryz.info5
  have HM := Lib.hid hm; have HV := Lib.hid hv
  clear hm hv hz sl
  go_enter Tryz.func201, Tryz.ntmps201
  go_wp2_with fail
  refine (clone32_c l A n c _ (hd.alloc _) h0 hnc (by omega)).mono ?_
  rintro e w1 ⟨A1, c1, rfl, hown, hb⟩
  have hX := heap_below (heap_new w (.cells #[.bool true, .slice A n c] 111) rfl) hb
  have hB : Below w.heap.size w w1 := below_then hb (by go_grown) (by simp only [World.size_alloc]; omega)
  have hown := own_mono hown (base' := w.heap.size) (by simp only [World.size_alloc]; omega)
  have hsz := hB.size
  clear hb hd
  go_wp2_with fail
  go_loopg [3, 4] m (fun M x y wr => ∃ (os ds : List Nat) (A2 : Option Addr) (c2 k : Nat), x = .slice A2 os.length c2 /\ y = .slice A1 k c1 /\ k <= 200 /\ wr.ownsRow w.heap.size 5 1 (.slice A2 os.length c2) os.length (digV .u8 os) /\ wr.ownsRow w.heap.size 196 1 (.slice A1 k c1) k (digV .u32 ds) /\ Digs B32 ds /\ Norm ds /\ val B32 ds = M /\
   tailD M ++ (os.map UInt8.ofNat).reverse = tailD m /\ (∀ o ∈ os, o < 256) /\ wr.heap[w.heap.size]? = some (.cells #[.bool true, .slice A n c] 111 (0, 0)) /\ Below w.heap.size w wr)
  case atStart => exact ⟨[], l, none, 0, n, rfl, rfl, hn, World.ownsRow_nil _ _ _ _, hown, gl, nl, HV.out, by simp, by simp, hX, hB⟩
  case round =>
   obtain ⟨os, ds, A2, c2, k, rfl, rfl, hk, hos, hds, gd, nd, hval, htl, hby, hX, hB⟩ := hrel
   have HT := Lib.hid htl; have HY := Lib.hid hby; have HX := Lib.hid hX
   have hdl : ds.length = k := by have := hds.1; rw [digV_length] at this; omega
   have hosl : os.length <= 200 := by
    have h1 := tail_len 200 m HM.out
    have h2 := congrArg List.length htl
    simp at h2
    omega
   clear htl hby hX
   rcases Nat.eq_zero_or_pos k with hk0 | hk0
   ·subst hk0
    have hd0 : ds = [] := List.length_eq_zero_iff.1 hdl
    subst hd0
    rw [val_nil] at hval
    subst hval
    have htl := HT.out
    rw [tail_zero, List.nil_append] at htl
    have hos0 : 0 < os.length := by
     rcases Nat.eq_zero_or_pos os.length with h | h
     ·have : os = [] := List.length_eq_zero_iff.1 h
      subst this
      have h2 := tail_step hmp
      rw [<- htl] at h2
      simp at h2
     ·exact h
    obtain ⟨A2b, hA2⟩ : ∃ g, A2 = some ⟨g, 0, none⟩ := by
     rcases hos.2 with ⟨_, h0⟩ | ⟨g, cap, cur, hv, hbg, _⟩
     ·omega
     ·injection hv with hA
      exact ⟨g, hA⟩
    subst hA2
    obtain ⟨b0, b1, b2, b3, b4⟩ := box2 HX.out
    clear hds gd nd hdl HX htl
    have hB7 := hB
    have hosn : os.length <= 200 := hosl
    go_wp2_with (first
     | (at_builtin; refine wpList_push_own rfl _ _ 246 rfl w.heap.size 5 i0 (.int .u8 0) 1 Tryz.underlying246 hi hz0 hz1 hz2 rfl (.slice (some ⟨A2b, 0, none⟩) os.length c2) os.length (digV .u8 os) rfl hos (.int .u8 45) rfl rfl (by unfold maxLen; omega) (by omega) hB.size ?_; intro A3 c3 w3 hos3 hg3; have hB3 := hB.grown hg3 hB.size (town_ge hos); clear hos hg3))
    have hos4 : w3.ownsRow w.heap.size 5 1 (.slice A3 (os ++ [45]).length c3) (os ++ [45]).length (digV .u8 (os ++ [45])) := by
     rw [List.length_append, List.length_singleton, digV_snoc]
     exact hos3
    obtain ⟨A3b, hA3⟩ : ∃ g, A3 = some ⟨g, 0, none⟩ := by
     rcases hos4.2 with ⟨_, h0⟩ | ⟨g, cap, cur, hv, hbg, _⟩
     ·simp at h0
     ·injection hv with hA
      exact ⟨g, hA⟩
    subst hA3
    have hl1 : (os ++ [45]).length = os.length + 1 := by simp
    have HY2 := Lib.hid (show ∀ o ∈ os ++ [45], o < 256 from fun o ho => by
     rcases List.mem_append.1 ho with h | h
     ·exact HY.out o h
     ·obtain rfl : o = 45 := by simpa using h
      decide)
    have HO2 := Lib.hid (show bs (sdig (-(m : Int))) = (⟨((os ++ [45]).reverse.map UInt8.ofNat).toArray⟩ : ByteArray) by
     have h5 := HT.out
     rw [tail_zero, List.nil_append, tail_pos hmp] at h5
     rw [sdig_neg (by omega), show (-(m : Int)).natAbs = m by omega, <- h5]
     show (⟨(45 :: (os.map UInt8.ofNat).reverse).toArray⟩ : ByteArray) = _
     congr 2
     simp)
    rw [show os.length + 1 = (os ++ [45]).length from hl1.symm]
    generalize os ++ [45] = os2 at hos4 HY2 HO2 hl1 ⊢
    clear hos3 hB HT HY hB7
    have REV := reverse8_c os2 w.heap.size (some ⟨A3b, 0, none⟩) os2.length c3 w3 hos4 rfl (by omega) (by omega)
    refine REV.mono ?_
    rintro e w2 ⟨rfl, hown2, hb2⟩
    have hB2 := Lib.hid (hB3.trans hb2)
    have hcv := run_convert_bytes_back (P := Tryz.prog) w2 246 9 5 ⟨A3b, 0, none⟩ c3 (os2.reverse.map UInt8.ofNat) Tryz.underlying246 Tryz.underlying5 Tryz.underlying9 (by
     intro k hk
     have hk2 : k < os2.reverse.length := by simpa using hk
     have h1 := (hown2.cellAt k (by simpa using hk2)).trans (digV_get .u8 hk2)
     have hadd : (⟨A3b, 0, none⟩ : Addr).add k = ⟨A3b, k, none⟩ := by unfold Addr.add; split <;> simp_all
     rw [hadd, h1]
     have h2 := dg_get hk2
     rw [List.getElem?_eq_getElem hk2] at h2
     injection h2 with h2
     have h3 : os2.reverse[k] < 256 := HY2.out _ (List.mem_reverse.1 (List.getElem_mem hk2))
     rw [List.getElem_map, UInt8.toNat_ofNat', h2, Nat.mod_eq_of_lt (by rw [<- h2]; exact h3)])
    rw [show (os2.reverse.map UInt8.ofNat).length = os.length + 1 by simp; exact hl1] at hcv
    clear REV hown2 hos4 hB3 hb2 b0 b1 b2 b3 b4
    go_wp2
    go_ret
    exact ⟨by rw [HO2.out, List.map_reverse]; rfl, hB2.out⟩
   ·obtain ⟨g, hA1, hbg⟩ : ∃ g, A1 = some ⟨g, 0, none⟩ /\ w.heap.size <= g := by
     rcases hds.2 with ⟨_, h0⟩ | ⟨g, cap, cur, hv, hbg, _⟩
     ·omega
     ·injection hv with hA
      exact ⟨g, hA, hbg⟩
    subst hA1
    have hkc : k <= c1 := (own_cap hds).1
    go_wp2_with fail
    obtain ⟨wo, rfl⟩ : ∃ wo : World, wo = wr := ⟨_, rfl⟩
    go_loopw [5, 6] (fun rv i wr => ∃ (j r : Nat) (es : List Nat), j <= k /\ rv = .int .u32 (r : Int) /\ i = .int .i64 ((j : Int) - 1) /\ r < 10 /\ es.length = k /\ es.take j = ds.take j /\ 10 * val B32 (es.drop j) + r = val B32 (ds.drop j) /\ Digs B32 es /\
     wr.ownsRow w.heap.size 196 1 (.slice (some ⟨g, 0, none⟩) k c1) k (digV .u32 es) /\ wr.ownsRow w.heap.size 5 1 (.slice A2 os.length c2) os.length (digV .u8 os) /\ wr.heap[w.heap.size]? = some (.cells #[.bool true, .slice A n c] 111 (0, 0)) /\ Below w.heap.size w wr) (fun _ i _ => (intOf i + 1).toNat)
    case atStart => exact ⟨k, 0, ds, Nat.le_refl _, rfl, by go_num, by omega, hdl, rfl, by rw [List.drop_eq_nil_of_le (by omega)]; rfl, gd, hds, hos, HX.out, hB⟩
    case round =>
     clear hB hos hds hX
     obtain ⟨j, r, es, hj, rfl, rfl, hr, hel, htk, hvl, ge, hes, hos, hX, hB⟩ := hrel
     have HTK := Lib.hid htk; have HVL := Lib.hid hvl; have HX := Lib.hid hX; have HEL := Lib.hid hel
     clear htk hvl hX hel
     rcases j with _ | j
     ·have hvl := HVL.out
      rw [List.drop_zero, List.drop_zero, hval] at hvl
      have hve : val B32 es = gk / 10 := by omega
      have hre : r = gk % 10 := by omega
      have HVE := Lib.hid hve; have HRE := Lib.hid hre
      have hdig : Dig wr .u32 196 (some ⟨g, 0, none⟩) k es := Dig.of_own hes
      have hc1m : c1 <= maxLen := (own_cap hes).2
      have hwrp : IntKind.u8.wrap (r : Int) = (r : Int) := IntWalk.u8_in _ (by omega)
      clear hvl hve hre HTK HVL
      go_wp2_with (first
       | (at_builtin; refine wpList_push_own rfl _ _ 246 rfl w.heap.size 5 i0 (.int .u8 0) 1 Tryz.underlying246 hi hz0 hz1 hz2 rfl (.slice A2 os.length c2) os.length (digV .u8 os) rfl hos (.int .u8 (48 + (r : Int))) rfl rfl (by unfold maxLen; omega) (by omega) hB.size ?_; intro A3 c3 w3 hos3 hg3; have hes3 := town_grown hes hos hg3 (by decide); have hX3 := Lib.hid (tgrown_heap HX.out hos hg3 (by decide)); have hB3 := hB.grown hg3 hB.size (town_ge hos); clear hos hes hg3))
      refine (trimmed_c es (some ⟨g, 0, none⟩) k c1 w3 (Dig.of_own hes3) (by omega) hc1m).mono ?_
      rintro e w4 ⟨rfl, k2, hk2, ht, rfl⟩
      have HT2 := Lib.hid ht
      clear ht
      go_wp2
      go_roundg (gk / 10)
      case measure =>
       have : 0 < gk := by rw [<- hval]; exact val_pos (by decide) nd (by intro e; rw [e] at hdl; simp at hdl; omega)
       omega
      case rel =>
       have hgk : 0 < gk := by rw [<- hval]; exact val_pos (by decide) nd (by intro e; rw [e] at hdl; simp at hdl; omega)
       refine ⟨os ++ [48 + r], es.take k2, A3, c3, k2, by simp, rfl, by omega, ?_, own_take hes3 hk2, by rw [<- HT2.out]; exact digs_trim ge, by rw [<- HT2.out]; exact norm_trim es, by rw [<- HT2.out, val_trim]; exact HVE.out, ?_, ?_, hX3.out, hB3⟩
       ·rw [List.length_append, List.length_singleton, digV_snoc]
        exact hos3
       ·rw [List.map_append, List.reverse_append, <- HT.out, tail_step hgk, HRE.out]
        simp
       ·intro o ho
        rcases List.mem_append.1 ho with h | h
        ·exact HY.out o h
        ·have : o = 48 + r := by simpa using h
         omega
     ·rw [show ((j + 1 : Nat) : Int) - 1 = (j : Int) by omega]
      have hxx := (hes.cellAt j (by omega)).trans (digV_get .u32 (l := es) (k := j) (by rw [HEL.out]; omega))
      have hfz := hes.frozenAt j
      obtain ⟨x, hx⟩ : ∃ x, dg es j = x := ⟨_, rfl⟩
      have hxb : x < 4294967296 := by rw [<- hx]; exact dg_lt ge (by decide) _
      rw [hx] at hxx
      have HXX := Lib.hid hx
      have DV := Lib.hid (fun w => div32_c r x w hr hxb)
      have hjk : (j : Int) < (k : Int) := by omega
      clear hx
      go_wp2_with (first | (refine (DV.out _).mono ?_; rintro e w2 ⟨⟨q, rfl⟩, rfl⟩))
      have hes2 : (wr.drewN q).ownsRow w.heap.size 196 1 (.slice (some ⟨g, 0, none⟩) k c1) k (digV .u32 es) := by exact hes
      have hos2 : (wr.drewN q).ownsRow w.heap.size 5 1 (.slice A2 os.length c2) os.length (digV .u8 os) := by exact hos
      have hB2 := (below_drewN hB q).setCell (p := ⟨g, j, none⟩) hbg (.int .u32 (((r : Int) * 4294967296 + (x : Int)) / 10))
      have hX2 : (wr.drewN q).heap[w.heap.size]? = some (.cells #[.bool true, .slice A n c] 111 (0, 0)) := by exact HX.out
      refine ⟨⟨j, (r * 4294967296 + x) % 10, es.set j ((r * 4294967296 + x) / 10), by omega, congrArg _ (by omega), rfl, by omega, by simp [HEL.out], take_set HTK.out, div_step (by rw [HEL.out]; omega) (by rw [HEL.out, hdl]) (by rw [<- dg_take HTK.out, HXX.out]) HVL.out, ge.set _ (by unfold B32; omega), row_store hes2 j (by omega), town_set hos2 hes2 (by decide) _, ?_, hB2⟩, by simp [intOf]⟩
      refine heap_far hX2 ?_ _
      rcases hes2.2 with ⟨hv, _⟩ | ⟨g2, cap2, cur2, hv2, _, hh2, _⟩
      ·injection hv with hv; cases hv
      ·injection hv2 with hv2
       injection hv2 with hv2
       injection hv2 with hv2
       subst hv2
       exact heap_ne hX2 hh2 (by decide)
theorem textz_c (w : World) {s : Bool} {A : Option Addr} {n c : Nat} {z : Int} (h : Big .u32 196 B32 w s A n c z) (hm : z.natAbs < 10 ^ 200) :
  Calls Tryz.prog 201 #[.agg #[.bool s, .slice A n c]] w (RetS (bs (sdig z)) w) := by
 have hz : (s = true /\ z < 0) ∨ (s = false /\ 0 <= z) := by
  rcases h.sign (by decide) with ⟨e, k⟩ | ⟨e, -, k⟩ | ⟨e, -, k⟩
  ·exact .inl ⟨e, Int.sign_eq_neg_one_iff_neg.1 k⟩
  ·exact .inr ⟨e, by rw [Int.sign_eq_zero_iff_zero.1 k]; exact Int.le_refl _⟩
  ·exact .inr ⟨e, Int.le_of_lt (Int.sign_eq_one_iff_pos.1 k)⟩
 rcases hz with ⟨rfl, h0⟩ | ⟨rfl, h0⟩
 ·have e : z = -((z.natAbs : Nat) : Int) := by omega
  rw [e] at h
  refine (textn_c w h hm (by omega)).mono ?_
  rintro e' w' ⟨rfl, hb⟩
  exact ⟨by rw [<- e], hb⟩
 ·have e : z = ((z.natAbs : Nat) : Int) := by omega
  rw [e] at h
  refine (text_c w h hm).mono ?_
  rintro e' w' ⟨rfl, hb⟩
  exact ⟨by rw [sdig_pos (by omega)]; rfl, hb⟩
end Go.Proofs.YtbnjejenejoibaaGreatDoor
