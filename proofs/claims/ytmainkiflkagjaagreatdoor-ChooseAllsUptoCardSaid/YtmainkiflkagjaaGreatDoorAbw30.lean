/-
Reports that are handed in.
-/
import Derived.Test.YtmainkiflkagjaaGreatDoorAbw26
import Derived.Test.YtmainkiflkagjaaGreatDoorAbw28
namespace Go.Abs
open Go Go.Proofs

set_option maxRecDepth 100000 in
open Go.WideShapes Go.ChangeShapes in
theorem arg_reps {H : Type} {enc : TypeId × Value → H} {W : World} {r : Reach} {b0 : Nat} {v : Value} {d : DataW H} {p : List MemPlace} (hv : Value.okWide Tryz.prog W r b0 33 v)
    (h : DataW.Trod enc Tryz.prog W 0 (fun _ => true) true 33 v d p) (hb : Go.Proofs.YtmainkiflkagjaaGreatDoor.Rows.uptoBulk d ≤ 1048576) :
    ∃ l : List RpV, RV W noM 0 G0 v (.slice (rpCL l)) ∧ (∀ v ∈ l, okRpr v) ∧ sumN cRp l ≤ 64 * Go.Proofs.YtmainkiflkagjaaGreatDoor.Rows.uptoBulk d ∧ l.length ≤ Go.Proofs.YtmainkiflkagjaaGreatDoor.Rows.uptoBulk d := by
  obtain ⟨a, len, cap, rfl⟩ := okWide_slice Tryz.underlying33 hv
  obtain ⟨x, ⟨l, rfl, h1, h2, h4⟩, h3⟩ := arg_one (φ := fun b x => ∃ l : List RpV, x = .slice (rpCL l) ∧ (∀ v ∈ l, okRpr v) ∧ sumN cRp l ≤ 64 * b ∧ l.length ≤ b)
    (reads31.imp fun b xs _ ⟨_, l, h1, h2, h3, h4⟩ => ⟨_, h1, l, rfl, h2, by omega, by omega⟩) rfl h hb
  exact ⟨l, h3, h1, h2, h4⟩
theorem okRl_of {l : List RpV} {b : Nat} (h : ∀ v ∈ l, okRpr v) (hc : sumN cRp l ≤ 64 * b) (hl : l.length ≤ b) (hb : b ≤ 1048576) : OkRl l :=
  ⟨by omega, fun r hr => ⟨(h r hr).rp, by have := sumN_mem cRp l r hr; omega⟩⟩
end Go.Abs

