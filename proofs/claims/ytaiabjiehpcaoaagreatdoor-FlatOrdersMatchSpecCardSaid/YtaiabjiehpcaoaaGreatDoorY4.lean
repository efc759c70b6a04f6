/- A row of strings of a function's own: pushing to it. The walks of the program's columnOf and Column. (Printed by genY2.py.) The walk of the program's Column. -/
import Derived.Test.YtaiabjiehpcaoaaGreatDoorFE
import Derived.Test.YtaiabjiehpcaoaaGreatDoorY1
import Derived.Test.YtaiabjiehpcaoaaGreatDoorRH
import Derived.Deep.AppendLies
-- merged: YP Y2 Y3 Y4
namespace Go.Proofs.YtaiabjiehpcaoaaGreatDoor
open Go.RowKit Limb Nmb Work
set_option linter.unusedVariables false
set_option linter.unusedSimpArgs false
def Qbv (L:List ByteArray):List Value:=L.map Value.string
theorem yown_sts {w:World} {B:Nat} {A:Option Addr} {n c:Nat} {L:List ByteArray} (h:w.ownsRow B 9 1 (.slice A n c) n (Qbv L)) (hn:0<n):∃ g,A=some ⟨g,0,none⟩/\Sts w (some ⟨g,0,none⟩) L/\n<=c/\L.length=n:=by
 have hc:=Qal h
 obtain ⟨h1,h2⟩:=h
 have hl:L.length=n:=by unfold Qbv at h1;rw [List.length_map] at h1;omega
 rcases h2 with ⟨h2,h3⟩|⟨g,cap,cur,hv,hb,hh,hn2,_,hs,ht⟩
 ·omega
 ·cases hv
  refine ⟨g,rfl,fun _=>⟨g,0,cur,(0,0),rfl,hh,fun j hj=>?_⟩,hc.1,hl⟩
  have h3:(Qbv L)[j]?=some (.string (wd L j)):=by unfold Qbv wd;simp [List.getD_eq_getElem?_getD,hj]
  rw [<- ht,List.getElem?_take,if_pos (by omega)] at h3
  rw [Nat.zero_add]
  simpa using h3
end Go.Proofs.YtaiabjiehpcaoaaGreatDoor
