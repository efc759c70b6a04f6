
/- The walk of the law FlatTurnedToItselfStays. -/
import Derived.Test.YtlabejjgnnlalaaGreatDoorZA
import Derived.Test.YtlabejjgnnlalaaGreatDoorZ1
import Derived.Test.YtlabejjgnnlalaaGreatDoorUN
namespace Go.Proofs.YtlabejjgnnlalaaGreatDoor
open Go.RowKit Limb Nmb Work
set_option linter.unusedVariables false
set_option linter.unusedSimpArgs false
set_option maxHeartbeats 1000000 in
set_option maxRecDepth 100000 in
theorem areright_c (f : Fmt) (A : Option Addr) (cp : Nat) (FA : Nat → Option Addr) (FC : Nat → Nat) (L : Option Addr) (LC : Nat) (rs : List RowP) (RA : Nat → Option Addr) (RC : Nat → Nat) (w : World) (ho : Kinds w A f.kinds FA FC) (hl : RowsM w L rs RA RC) (hcp : f.kinds.length ≤ cp) (hm : 0 ≤ f.mark ∧ f.mark ≤ 255) (hq : 0 ≤ f.quote ∧ f.quote ≤ 255) (ht : Tab w) :
    Calls Tryz.prog 9 #[fmtG f A cp, .slice L rs.length LC] w (RetB (decide (askF f rs = 0)) w) := by
  have HAS := Lib.hid (fun w h h2 ht => askrows_c f A cp FA FC L LC rs RA RC w h h2 hcp hm hq ht)
  have HK := Lib.hid ho; have HL := Lib.hid hl; have HT := Lib.hid ht
  obtain ⟨AK, hAK⟩ : ∃ x, askF f rs = x := ⟨_, rfl⟩
  rw [hAK] at HAS ⊢
  unfold RetI at HAS
  clear hAK ho hl ht
  obtain ⟨m, q, ks, hd, tl, ct, sm⟩ := f
  unfold fmtG at HAS ⊢
  simp only at HAS HK hcp ⊢
  obtain ⟨n, hn⟩ : ∃ x, ks.length = x := ⟨_, rfl⟩
  rw [hn] at HAS hcp ⊢
  clear hn
  have hF0 := heap_new w (.cells #[.int .u8 m, .int .u8 q, .slice A n cp, .string hd, .string tl, .string ct, .string sm] 24) rfl
  have HB0 : Hid (Below w.heap.size w (w.alloc (.cells #[.int .u8 m, .int .u8 q, .slice A n cp, .string hd, .string tl, .string ct, .string sm] 24))) := Lib.hid (by go_grown)
  go_enter Tryz.func9, Tryz.ntmps9
  obtain ⟨⟨f0, f1, f2, f3, f4, f5, f6⟩, f7⟩ := obox7 hF0
  go_wp2_with fail
  refine (HAS.out _ (HK.out.below HB0.out) (HL.out.below HB0.out) (HT.out.below HB0.out)).mono ?_
  rintro _ w2 ⟨rfl, hb2⟩
  have hB2 := below_then hb2 HB0.out HB0.out.size
  by_cases h : AK = 0
  · subst h
    go_wp2
    go_ret
    exact ⟨rfl, hB2⟩
  · have h2 : (AK == 0) = false := beq_eq_false_iff_ne.2 h
    have HE := Lib.hid (decide_eq_false h)
    clear h
    go_wp2
    go_ret
    exact ⟨by rw [HE.out]; rfl, hB2⟩
end Go.Proofs.YtlabejjgnnlalaaGreatDoor
