/-
  No cell of these rows narrows 'for every input' (looked for: loops, veiled, ifaces, maps, wideKeys, modest, calm, conditions, laid).
  DERIVED. THE GIVEN ROWS OF THIS SEAT. 4 by the template 'for every input the law returns true; each argument reads behind the call as it read before'; 0 by the template 'total and deterministic' (their statements: YtegabimiegdcjaaTotals.lean).
  GIVEN WITH THE SEED: the statements are not yours to turn. If you find one false, say at which input.
  Laid BY PROGRAM, IN A SANDBOX (cutbox-rows.mjs): the forced cells as the released guide's own fill.sh prints them over the translation 764ebca3c0775aad… (all of the seat's roots in one cut). By AI agents, Wed Nov 11 2026. No macro, syntax, notation, axiom, sorry.
-/
import Derived.Test.YtegabimiegdcjaaChecked
import GoSem.Claim
import GoSem.ClaimJoined
import GoSem.ClaimMapViews
import Derived.JoinedTies
import Derived.KernelRfl
namespace Go.Proofs.Ytegabimiegdcjaa
/- THE CELL 'sum', in the pinned program and in every row, IS THE sha256 OF THE DUMP (.gsa) THAT YtegabimiegdcjaaProg.lean LOADS. Nothing in Lean hashes anything: it is a label: what it is worth is what the hold of that sum in a sandbox is worth. -/
noncomputable def Try.pinned : Pinned := { name := "ytegabimiegdcjaa", sum := "764ebca3c0775aada6d71ef978913326de2d7d59c2f6c1cb780f3523506ce1c8", checked := Try.checked }
namespace Rows
def none {H : Type} : Left H := { results := [], args := [] }

/-- 'interchangelaw1.AmountSumsMatchSpec': WHATEVER THE INPUT: true; the input reads as it did. -/
def amountSumsMatchSpecSpec : ChangeSpec := { name := "amountSumsMatchSpec", fn := fun _ => fun
  | [d1, d2, d3] => { results := [.lit (.bool true)], args := [d1, d2, d3] }
  | _ => none }
def amountSumsMatchSpecRow : OpenClaim := { program := "ytegabimiegdcjaa", sum := "764ebca3c0775aada6d71ef978913326de2d7d59c2f6c1cb780f3523506ce1c8", func := "interchange/interchangelaw1.AmountSumsMatchSpec", spec := "amountSumsMatchSpec", inPlace := ["internal/bytealg.IndexByteString", "internal/bytealg.IndexString"], named := ["internal/bytealg.MaxLen"], apart := false }
def AmountSumsMatchSpecSaid : Prop := amountSumsMatchSpecRow.holds Try.pinned (OpenSpec.ofChange amountSumsMatchSpecSpec)

/-- ITS FALSE NEIGHBOUR: 'it returns false'. Refute it at one input. -/
def amountSumsMatchSpecWrong : ChangeSpec := { name := "amountSumsMatchSpec", fn := fun _ => fun
  | [d1, d2, d3] => { results := [.lit (.bool false)], args := [d1, d2, d3] }
  | _ => none }
def AmountSumsMatchSpecWrongFalsely : Prop := amountSumsMatchSpecRow.holds Try.pinned (OpenSpec.ofChange amountSumsMatchSpecWrong)

/-- 'interchangelaw1.AmountRoundsMatchSpec': WHATEVER THE INPUT: true; the input reads as it did. -/
def amountRoundsMatchSpecSpec : ChangeSpec := { name := "amountRoundsMatchSpec", fn := fun _ => fun
  | [d1, d2, d3, d4] => { results := [.lit (.bool true)], args := [d1, d2, d3, d4] }
  | _ => none }
def amountRoundsMatchSpecRow : OpenClaim := { program := "ytegabimiegdcjaa", sum := "764ebca3c0775aada6d71ef978913326de2d7d59c2f6c1cb780f3523506ce1c8", func := "interchange/interchangelaw1.AmountRoundsMatchSpec", spec := "amountRoundsMatchSpec", inPlace := ["internal/bytealg.IndexByteString", "internal/bytealg.IndexString"], named := ["internal/bytealg.MaxLen"], apart := false }
def AmountRoundsMatchSpecSaid : Prop := amountRoundsMatchSpecRow.holds Try.pinned (OpenSpec.ofChange amountRoundsMatchSpecSpec)

/-- ITS FALSE NEIGHBOUR: 'it returns false'. Refute it at one input. -/
def amountRoundsMatchSpecWrong : ChangeSpec := { name := "amountRoundsMatchSpec", fn := fun _ => fun
  | [d1, d2, d3, d4] => { results := [.lit (.bool false)], args := [d1, d2, d3, d4] }
  | _ => none }
def AmountRoundsMatchSpecWrongFalsely : Prop := amountRoundsMatchSpecRow.holds Try.pinned (OpenSpec.ofChange amountRoundsMatchSpecWrong)

/-- 'interchangelaw1.AmountSharesAddUp': WHATEVER THE INPUT: true; the input reads as it did. -/
def amountSharesAddUpSpec : ChangeSpec := { name := "amountSharesAddUp", fn := fun _ => fun
  | [d1, d2] => { results := [.lit (.bool true)], args := [d1, d2] }
  | _ => none }
def amountSharesAddUpRow : OpenClaim := { program := "ytegabimiegdcjaa", sum := "764ebca3c0775aada6d71ef978913326de2d7d59c2f6c1cb780f3523506ce1c8", func := "interchange/interchangelaw1.AmountSharesAddUp", spec := "amountSharesAddUp", inPlace := ["internal/bytealg.IndexByteString", "internal/bytealg.IndexString"], unfollowed := true, recurses := true, named := ["internal/bytealg.MaxLen"], apart := false }
def AmountSharesAddUpSaid : Prop := amountSharesAddUpRow.holds Try.pinned (OpenSpec.ofChange amountSharesAddUpSpec)

/-- ITS FALSE NEIGHBOUR: 'it returns false'. Refute it at one input. -/
def amountSharesAddUpWrong : ChangeSpec := { name := "amountSharesAddUp", fn := fun _ => fun
  | [d1, d2] => { results := [.lit (.bool false)], args := [d1, d2] }
  | _ => none }
def AmountSharesAddUpWrongFalsely : Prop := amountSharesAddUpRow.holds Try.pinned (OpenSpec.ofChange amountSharesAddUpWrong)

/-- 'interchangelaw1.AmountSharesMatchSpec': WHATEVER THE INPUT: true; the input reads as it did. -/
def amountSharesMatchSpecSpec : ChangeSpec := { name := "amountSharesMatchSpec", fn := fun _ => fun
  | [d1, d2] => { results := [.lit (.bool true)], args := [d1, d2] }
  | _ => none }
def amountSharesMatchSpecRow : OpenClaim := { program := "ytegabimiegdcjaa", sum := "764ebca3c0775aada6d71ef978913326de2d7d59c2f6c1cb780f3523506ce1c8", func := "interchange/interchangelaw1.AmountSharesMatchSpec", spec := "amountSharesMatchSpec", inPlace := ["internal/bytealg.IndexByteString", "internal/bytealg.IndexString"], unfollowed := true, recurses := true, named := ["internal/bytealg.MaxLen"], apart := false }
def AmountSharesMatchSpecSaid : Prop := amountSharesMatchSpecRow.holds Try.pinned (OpenSpec.ofChange amountSharesMatchSpecSpec)

/-- ITS FALSE NEIGHBOUR: 'it returns false'. Refute it at one input. -/
def amountSharesMatchSpecWrong : ChangeSpec := { name := "amountSharesMatchSpec", fn := fun _ => fun
  | [d1, d2] => { results := [.lit (.bool false)], args := [d1, d2] }
  | _ => none }
def AmountSharesMatchSpecWrongFalsely : Prop := amountSharesMatchSpecRow.holds Try.pinned (OpenSpec.ofChange amountSharesMatchSpecWrong)

/- THE SECOND FORM. 'bulk': how many values and letters a reading holds, each counted each time it is reached (what is shared counts as often as it is met; a slice's spare places count too). A statement '..UptoSaid' is the law's where the arguments, and the package variables that the reading takes, are together of bulk at most 1048576: NARROWER than '..Said'. Prove '..Said' where nothing that the law and all that it calls make is longer than what came in: it says more and counts as full. Else prove '..UptoSaid'. A law counts once. -/
mutual
def uptoBulk {H : Type} : DataW H → Nat
  | .lit (.string bytes) => bytes.length + 1
  | .lit _ => 1
  | .nil => 1
  | .ptr d => uptoBulk d + 1
  | .slice elems spare => uptoBulkAll elems + uptoBulkAll spare + 1
  | .agg parts => uptoBulkAll parts + 1
  | .iface _ d => uptoBulk d + 1
  | .map entries => uptoBulkEntries entries + 1
  | .held _ => 1
def uptoBulkAll {H : Type} : List (DataW H) → Nat
  | [] => 0
  | d :: r => uptoBulk d + uptoBulkAll r
def uptoBulkEntries {H : Type} : List (Lit × DataW H) → Nat
  | [] => 0
  | x :: r => uptoBulkEntry x + uptoBulkEntries r
def uptoBulkEntry {H : Type} : Lit × DataW H → Nat
  | (.string bytes, d) => bytes.length + uptoBulk d + 1
  | (_, d) => uptoBulk d + 1
 end
def uptoSmall : (H : Type) → List (DataW H) → Bool := fun _ ds => decide (uptoBulkAll ds ≤ 1048576)
def OpenSpec.upto (s : _root_.Go.ChangeSpec) : _root_.Go.OpenSpec := { _root_.Go.OpenSpec.ofChange s with cond := some uptoSmall }

/-- 'interchangelaw1.AmountSumsMatchSpec', WHERE WHAT IT READS IS OF BULK AT MOST 1048576: true; the input reads as it did. -/
def amountSumsMatchSpecUptoRow : OpenClaim := { program := "ytegabimiegdcjaa", sum := "764ebca3c0775aada6d71ef978913326de2d7d59c2f6c1cb780f3523506ce1c8", func := "interchange/interchangelaw1.AmountSumsMatchSpec", spec := "amountSumsMatchSpec", inPlace := ["internal/bytealg.IndexByteString", "internal/bytealg.IndexString"], named := ["internal/bytealg.MaxLen"], apart := false, narrowed := true }
def AmountSumsMatchSpecUptoSaid : Prop := amountSumsMatchSpecUptoRow.holds Try.pinned (OpenSpec.upto amountSumsMatchSpecSpec)

/-- 'interchangelaw1.AmountRoundsMatchSpec', WHERE WHAT IT READS IS OF BULK AT MOST 1048576: true; the input reads as it did. -/
def amountRoundsMatchSpecUptoRow : OpenClaim := { program := "ytegabimiegdcjaa", sum := "764ebca3c0775aada6d71ef978913326de2d7d59c2f6c1cb780f3523506ce1c8", func := "interchange/interchangelaw1.AmountRoundsMatchSpec", spec := "amountRoundsMatchSpec", inPlace := ["internal/bytealg.IndexByteString", "internal/bytealg.IndexString"], named := ["internal/bytealg.MaxLen"], apart := false, narrowed := true }
def AmountRoundsMatchSpecUptoSaid : Prop := amountRoundsMatchSpecUptoRow.holds Try.pinned (OpenSpec.upto amountRoundsMatchSpecSpec)

/-- 'interchangelaw1.AmountSharesAddUp', WHERE WHAT IT READS IS OF BULK AT MOST 1048576: true; the input reads as it did. -/
def amountSharesAddUpUptoRow : OpenClaim := { program := "ytegabimiegdcjaa", sum := "764ebca3c0775aada6d71ef978913326de2d7d59c2f6c1cb780f3523506ce1c8", func := "interchange/interchangelaw1.AmountSharesAddUp", spec := "amountSharesAddUp", inPlace := ["internal/bytealg.IndexByteString", "internal/bytealg.IndexString"], unfollowed := true, recurses := true, named := ["internal/bytealg.MaxLen"], apart := false, narrowed := true }
def AmountSharesAddUpUptoSaid : Prop := amountSharesAddUpUptoRow.holds Try.pinned (OpenSpec.upto amountSharesAddUpSpec)

/-- 'interchangelaw1.AmountSharesMatchSpec', WHERE WHAT IT READS IS OF BULK AT MOST 1048576: true; the input reads as it did. -/
def amountSharesMatchSpecUptoRow : OpenClaim := { program := "ytegabimiegdcjaa", sum := "764ebca3c0775aada6d71ef978913326de2d7d59c2f6c1cb780f3523506ce1c8", func := "interchange/interchangelaw1.AmountSharesMatchSpec", spec := "amountSharesMatchSpec", inPlace := ["internal/bytealg.IndexByteString", "internal/bytealg.IndexString"], unfollowed := true, recurses := true, named := ["internal/bytealg.MaxLen"], apart := false, narrowed := true }
def AmountSharesMatchSpecUptoSaid : Prop := amountSharesMatchSpecUptoRow.holds Try.pinned (OpenSpec.upto amountSharesMatchSpecSpec)

end Rows
end Go.Proofs.Ytegabimiegdcjaa
