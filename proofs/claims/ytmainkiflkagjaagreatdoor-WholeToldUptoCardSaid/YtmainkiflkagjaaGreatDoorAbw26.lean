/-
The frame of the rows of this seat.
-/
import Derived.Test.YtmainkiflkagjaaGreatDoorCards
import Derived.Test.YtmainkiflkagjaaGreatDoorTie
import Derived.WalkKit
import Derived.ProofKit
import Derived.OpenShut
import Derived.Deep.DeepHandedRow
import Derived.Deep.DeepWitnessRowRef
import Derived.Test.YtmainkiflkagjaaGreatDoorAbw21
import Derived.ChangeSlices
import Derived.ChangeArms
import Derived.Test.YtmainkiflkagjaaGreatDoorAbw9
import Derived.Test.YtmainkiflkagjaaGreatDoorAbw16
import Derived.WideKeyArgs
namespace Go.Proofs.YtmainkiflkagjaaGreatDoor
open Go Go.Proofs Go.ChangeShapes Go.WideShapes Go.ChangeAt Go.RowKit

theorem own : ownKnob Tryz.prog.godebug = none := by kernel_rfl

/-- A world for the witness: the settled one, the listed variable holding what its initialiser lays. -/
noncomputable def low : Nat := (World.holding Tryz.prog default ⟨#[], #[], []⟩).heap.size
def tooLargeS : ByteArray := ⟨#[98, 121, 116, 101, 115, 46, 66, 117, 102, 102, 101, 114, 58, 32, 116, 111, 111, 32, 108, 97, 114, 103, 101]⟩
noncomputable def laidWorld (os : Os) : World :=
  let w0 := World.holding Tryz.prog os ⟨#[.cells #[.string tooLargeS] 242], #[], []⟩
  { w0 with heap := w0.heap.modify 0 fun
      | .cells _ t frozen => .cells #[.iface 226 (.pointer (some ⟨low, 0, none⟩))] t frozen
      | o => o }
theorem laid_met (os : Os) (args : Array Value) : laidMet Tryz.prog Rows.chooseRightsRow.laid ((laidWorld os).forCall (fun _ _ => 0) ⟨#[], args, []⟩).memory :=
  laidMet_of_run (ps := [.cell 0 0, .cell low 0]) 8 (by kernel_rfl) (by kernel_rfl) (by kernel_rfl)

/-- What a call that keeps all that it found leaves. -/
theorem kept_of_step {W W' : World} {G' : Abs.Gh} {H' : Abs.Heap} {Mx : Abs.Mut} (h : Abs.Step 0 Mx Abs.G0 [] W G' H' W') (may : MemPlace → Prop) : W.keptBut W' may :=
  ⟨h.os, h.output, fun i hi => by
    rw [h.far i hi (fun b l hb => by cases hb)]
    split
    · rename_i e1 e2
      rw [e1] at e2
      cases e2
      exact ⟨rfl, rfl, rfl, fun _ _ => rfl⟩
    · rename_i e1 e2
      rw [e1] at e2
      cases e2
      exact .inr ⟨rfl, rfl⟩
    · rfl⟩
def Mx0 : Abs.Mut := fun _ _ => False
theorem sim0 (W : World) : Abs.Sim Mx0 Abs.G0 [] W :=
  ⟨fun b l hb => (by cases hb), fun b o hb => (by simp at hb), fun b b' l l' k hb => (by cases hb), fun b l k i hb => (by cases hb), fun k i hm => hm.elim⟩
end Go.Proofs.YtmainkiflkagjaaGreatDoor

/-
How a law's arguments read as trees: whole numbers, bools, slices, structs; how great they are.
-/
namespace Go.Abs
open Go Go.Proofs
open Go.Proofs.YtmainkiflkagjaaGreatDoor.Rows (uptoBulk uptoBulkAll)

def noM : Mut := fun _ _ => False
/-- Cells read as trees. -/
def Rs (w : World) (cs : List Value) (xs : List AV) : Prop :=
  cs.length = xs.length ∧ ∀ (i : Nat) v x, cs[i]? = some v → xs[i]? = some x → v.oneCell' = true ∧ RV w noM 0 G0 v x

/-- All that reads at a type, with bulk b, is so. -/
def Reads (P : Program) (t : TypeId) (φ : Nat → List AV → Prop) : Prop :=
  ∀ (H : Type) (enc : TypeId × Value → H) (w : World) (sp : Nat → Bool) (hd : Bool) (fuel : Nat) (cs : List Value) (d : DataW H) (ps : List MemPlace),
    DataW.trod enc P w 0 sp hd fuel t cs = some (d, ps) → uptoBulk d ≤ 1048576 → ∃ xs, φ (uptoBulk d) xs ∧ Rs w cs xs

theorem Reads.imp {P : Program} {t : TypeId} {φ ψ : Nat → List AV → Prop} (h : Reads P t φ) (hk : ∀ b xs, b ≤ 1048576 → φ b xs → ψ b xs) : Reads P t ψ :=
  fun H enc w sp hd fuel cs d ps he hb => let ⟨xs, h1, h2⟩ := h H enc w sp hd fuel cs d ps he hb; ⟨xs, hk _ _ hb h1, h2⟩
theorem part_le {H : Type} {d : DataW H} {l : List (DataW H)} (h : d ∈ l) : uptoBulk d ≤ uptoBulkAll l := by
  induction l with
  | nil => cases h
  | cons x r ih =>
    simp only [uptoBulkAll]
    cases List.mem_cons.1 h with
    | inl e => subst e; omega
    | inr e => have := ih e; omega

theorem Rs.nil {w : World} : Rs w [] [] := ⟨rfl, fun i v x h => by simp at h⟩
theorem Rs.one {w : World} {v : Value} {x : AV} (h1 : v.oneCell' = true) (h2 : RV w noM 0 G0 v x) : Rs w [v] [x] :=
  ⟨rfl, fun i u y e1 e2 => by
    cases i with
    | zero => simp only [List.getElem?_cons_zero, Option.some.injEq] at e1 e2; subst e1; subst e2; exact ⟨h1, h2⟩
    | succ i => simp at e1⟩
theorem Rs.app {w : World} {cs ds : List Value} {xs ys : List AV} (h : Rs w cs xs) (k : Rs w ds ys) : Rs w (cs ++ ds) (xs ++ ys) := by
  refine ⟨by rw [List.length_append, List.length_append, h.1, k.1], fun i v x e1 e2 => ?_⟩
  by_cases hi : i < cs.length
  · rw [List.getElem?_append_left hi] at e1
    rw [List.getElem?_append_left (by rw [← h.1]; exact hi)] at e2
    exact h.2 i v x e1 e2
  · rw [List.getElem?_append_right (by omega)] at e1
    rw [List.getElem?_append_right (by rw [← h.1]; omega), ← h.1] at e2
    exact k.2 _ v x e1 e2

theorem bulk_pos {H : Type} (d : DataW H) : 1 ≤ uptoBulk d := by
  cases d with
  | lit l => cases l <;> simp only [uptoBulk] <;> omega
  | _ => simp only [uptoBulk]; omega

theorem reads_int {P : Program} {t : TypeId} {k : IntKind} (hu : P.underlying t = some (.int k)) : Reads P t fun b xs => 1 ≤ b ∧ ∃ n, xs = [.int k n] ∧ (Lit.int k n).wf = true := by
  intro H enc w sp hd fuel cs d ps h _
  obtain ⟨n, rfl, hx, hw⟩ := DataW.trod_int hu h
  exact ⟨[.int k n], ⟨bulk_pos d, n, rfl, hw⟩, .one rfl (.int ..)⟩
theorem reads_bool {P : Program} {t : TypeId} (hu : P.underlying t = some .bool) : Reads P t fun b xs => 1 ≤ b ∧ ∃ n, xs = [.bool n] := by
  intro H enc w sp hd fuel cs d ps h _
  obtain ⟨n, rfl, hx⟩ := DataW.trod_bool hu h
  exact ⟨[.bool n], ⟨bulk_pos d, n, rfl⟩, .one rfl (.bool ..)⟩

theorem bulkAll_map {H : Type} : ∀ (l : List (DataW H)), uptoBulkAll l = (l.map uptoBulk).sum
  | [] => rfl
  | d :: r => by simp only [uptoBulkAll, bulkAll_map r, List.map_cons, List.sum_cons]

theorem reads_slice {P : Program} {t e : TypeId} {φ : Nat → List AV → Prop} (hu : P.underlying t = some (.slice e)) (hp : 0 < P.cellsOf e) (he : Reads P e φ) :
    Reads P t fun b xs => 1 ≤ b ∧ ∃ ys : List (Nat × List AV), xs = [.slice (ys.map (·.2))] ∧ (ys.map (·.1)).sum + 1 ≤ b ∧ ∀ p ∈ ys, 1 ≤ p.1 ∧ φ p.1 p.2 := by
  intro H enc w sp hd fuel cs d ps h hbk
  rcases DataW.trod_slice hu h with ⟨rfl, hx⟩ | ⟨a, len, cap, elems, rest, n, rfl, rfl, hx, hb, hl, hm, hlen, hel, hsp, hns⟩
  · exact ⟨[.slice []], ⟨bulk_pos d, [], rfl, bulk_pos d, fun p hp => (by cases hp)⟩, .one rfl (.slice0 ..)⟩
  cases len with
  | zero =>
    obtain rfl : elems = [] := List.eq_nil_of_length_eq_zero hlen
    exact ⟨[.slice []], ⟨bulk_pos d, [], rfl, bulk_pos d, fun p hp => (by cases hp)⟩, .one rfl (.slice0 ..)⟩
  | succ len =>
    -- each element
    have one : ∀ i, i < len + 1 → ∃ (cs' : List Value) (y : DataW H × List MemPlace) (xs : List AV), elems[i]? = some y ∧ cs'.length = P.cellsOf e ∧ (∀ j, j < P.cellsOf e → w.cell? ((a.add (i * P.cellsOf e)).add j) = cs'[j]?) ∧ φ (uptoBulk y.1) xs ∧ Rs w cs' xs := by
      intro i hi
      have h1 := hel i hi
      have h2 : elems[i]? = some (elems[i]'(by omega)) := List.getElem?_eq_getElem (by omega)
      rw [h2, Option.bind_eq_some_iff] at h1
      obtain ⟨cs', hc, hy⟩ := h1
      obtain ⟨_, c1, c2⟩ := World.cells?_some hc
      have hb1 : uptoBulk (elems[i]'(by omega)).1 ≤ 1048576 := by
        refine Nat.le_trans ?_ hbk
        have : d = .slice (elems.map (·.1)) (rest.map (·.1)) := congrArg Prod.fst hx
        rw [this]
        have := part_le (List.mem_map_of_mem (f := (·.1)) (List.getElem_mem (l := elems) (n := i) (by omega)))
        simp only [uptoBulk]
        omega
      obtain ⟨xs, x1, x2⟩ := he H enc w sp hd n cs' _ _ hy hb1
      exact ⟨cs', _, xs, h2, c1, c2, x1, x2⟩
    have hspot : a.spot = none := by
      obtain ⟨cs', y, xs, _, c1, c2, _⟩ := one 0 (by omega)
      have hg : cs'[0]? = some (cs'[0]'(by omega)) := List.getElem?_eq_getElem (by omega)
      have := World.cell?_spot ((c2 0 hp).trans hg)
      simpa [Addr.add] using this
    obtain ⟨blk, off, spot⟩ := a
    subst hspot
    have hadd : ∀ i j, ((⟨blk, off, none⟩ : Addr).add i).add j = ⟨blk, off + i + j, none⟩ := fun i j => by
      unfold Addr.add; split <;> split <;> simp_all <;> omega
    -- all elements' trees
    have all : ∀ m, m ≤ len + 1 → ∃ ys : List (Nat × List AV), ys.length = m ∧ (ys.map (·.1)) = (elems.take m).map (fun y => uptoBulk y.1) ∧ (∀ p ∈ ys, 1 ≤ p.1 ∧ φ p.1 p.2) ∧
        ∀ i p, ys[i]? = some p → ∃ cs' : List Value, cs'.length = P.cellsOf e ∧ (∀ j, j < P.cellsOf e → w.cell? ⟨blk, off + i * P.cellsOf e + j, none⟩ = cs'[j]?) ∧ Rs w cs' p.2 := by
      intro m
      induction m with
      | zero => intro _; exact ⟨[], rfl, by simp, fun p hp => (by cases hp), fun i p hp => (by simp at hp)⟩
      | succ m ih =>
        intro hm'
        obtain ⟨ys, y1, y2, y3, y4⟩ := ih (by omega)
        obtain ⟨cs', y, xs, e1, e2, e3, e4, e5⟩ := one m (by omega)
        refine ⟨ys ++ [(uptoBulk y.1, xs)], by simp [y1], ?_, fun p hp => ?_, fun i p hp => ?_⟩
        · rw [List.map_append, y2, List.take_add_one, e1]; simp
        · rcases List.mem_append.1 hp with h | h
          · exact y3 p h
          · rw [List.mem_singleton] at h; subst h; exact ⟨bulk_pos _, e4⟩
        · by_cases hi : i < ys.length
          · rw [List.getElem?_append_left hi] at hp; exact y4 i p hp
          · rw [List.getElem?_append_right (by omega)] at hp
            have : i - ys.length = 0 := by
              have := (List.getElem?_eq_some_iff.1 hp).1
              simp at this; omega
            rw [this] at hp
            simp only [List.getElem?_cons_zero, Option.some.injEq] at hp
            subst hp
            obtain rfl : i = m := by omega
            exact ⟨cs', e2, fun j hj => by rw [← e3 j hj, hadd], e5⟩
    obtain ⟨ys, y1, y2, y3, y4⟩ := all (len + 1) (Nat.le_refl _)
    have len_of : ∀ (i : Nat) el, (ys.map (·.2))[i]? = some el → el.length = P.cellsOf e := by
      intro i el h1
      rw [List.getElem?_map, Option.map_eq_some_iff] at h1
      obtain ⟨p, hp', rfl⟩ := h1
      obtain ⟨cs', c1, c2, c3⟩ := y4 i p hp'
      rw [← c3.1, c1]
    have cell_of : ∀ (i : Nat) el (j : Nat) x, (ys.map (·.2))[i]? = some el → el[j]? = some x → ∃ v, w.cell? ⟨blk, off + i * P.cellsOf e + j, none⟩ = some v ∧ v.oneCell' = true ∧ RV w noM 0 G0 v x := by
      intro i el j x h1 h2
      have hl1 := len_of i el h1
      rw [List.getElem?_map, Option.map_eq_some_iff] at h1
      obtain ⟨p, hp', rfl⟩ := h1
      obtain ⟨cs', c1, c2, c3⟩ := y4 i p hp'
      have hj : j < P.cellsOf e := by have := (List.getElem?_eq_some_iff.1 h2).1; omega
      have hg : cs'[j]? = some (cs'[j]'(by omega)) := List.getElem?_eq_getElem (by omega)
      obtain ⟨k1, k2⟩ := c3.2 j _ x hg h2
      exact ⟨_, (c2 j hj).trans hg, k1, k2⟩
    let f : Nat → Nat → Value := fun i j => (w.cell? ⟨blk, off + i * P.cellsOf e + j, none⟩).getD .nilFunc
    refine ⟨[.slice (ys.map (·.2))], ⟨bulk_pos d, ys, rfl, ?_, y3⟩, .one rfl ?_⟩
    · rw [y2, List.take_of_length_le (by omega)]
      have : d = .slice (elems.map (·.1)) (rest.map (·.1)) := congrArg Prod.fst hx
      rw [this]
      simp only [uptoBulk, bulkAll_map, List.map_map]
      show (elems.map fun y => uptoBulk y.1).sum + 1 ≤ _
      have : (elems.map fun y => uptoBulk y.1) = elems.map (uptoBulk ∘ fun x => x.1) := rfl
      rw [this]; omega
    · have hlen' : len + 1 = (ys.map (·.2)).length := by rw [List.length_map, y1]
      rw [hlen']
      refine .slice 0 G0 blk off cap (P.cellsOf e) _ f len_of (fun i el j x h1 h2 => ?_) (fun i el j x h1 h2 => ?_) (by rw [← hlen']; exact hl)
      · obtain ⟨v, k1, k2, k3⟩ := cell_of i el j x h1 h2
        have : f i j = v := by simp only [f, k1, Option.getD_some]
        exact ⟨by rw [this]; exact k1, fun h => h.elim, by rw [this]; exact k2⟩
      · obtain ⟨v, k1, k2, k3⟩ := cell_of i el j x h1 h2
        have : f i j = v := by simp only [f, k1, Option.getD_some]
        rw [this]; exact k3

/-- Fields behind each other. -/
def Flds : List (Nat → List AV → Prop) → Nat → List AV → Prop
  | [], _, xs => xs = []
  | φ :: r, b, xs => ∃ b1 b2 x1 x2, b1 + b2 ≤ b ∧ xs = x1 ++ x2 ∧ φ b1 x1 ∧ Flds r b2 x2
def layout (P : Program) : Nat → List Field → Nat → Bool
  | o, [], n => Nat.beq o n
  | o, f :: r, n => Nat.beq f.offset o && layout P (o + P.cellsOf f.type) r n
theorem layout_le {P : Program} : ∀ (fs : List Field) (o n : Nat), layout P o fs n = true → o ≤ n
  | [], o, n, h => by simp only [layout] at h; have := Nat.eq_of_beq_eq_true h; omega
  | f :: r, o, n, h => by
    simp only [layout, Bool.and_eq_true] at h
    have := layout_le r _ n h.2
    omega
inductive AllR (P : Program) : List Field → List (Nat → List AV → Prop) → Prop
  | nil : AllR P [] []
  | cons {f : Field} {fs : List Field} {φ : Nat → List AV → Prop} {φs : List (Nat → List AV → Prop)} : Reads P f.type φ → AllR P fs φs → AllR P (f :: fs) (φ :: φs)

theorem reads_struct {P : Program} {t : TypeId} {fs : Array Field} {φs : List (Nat → List AV → Prop)} (hu : P.underlying t = some (.struct fs)) (hl : layout P 0 fs.toList (P.cellsOf t) = true) (hf : AllR P fs.toList φs) :
    Reads P t fun b xs => ∃ b', b' + 1 ≤ b ∧ Flds φs b' xs := by
  intro H enc w sp hd fuel cs d ps h hbk
  obtain ⟨ys, n, rfl, hx, hlen, hys, hel⟩ := DataW.trod_struct hu h
  have hel' : ∀ (i : Nat) (f : Field), fs.toList[i]? = some f → DataW.trod enc P w 0 sp hd n f.type ((cs.drop f.offset).take (P.cellsOf f.type)) = ys[i]? := fun i f hf => hel i f (by simpa using hf)
  have key : ∀ (fl : List Field) (φs : List (Nat → List AV → Prop)) (o : Nat) (zs : List (DataW H × List MemPlace)), AllR P fl φs → layout P o fl (P.cellsOf t) = true → fl.length = zs.length → (∀ z ∈ zs, uptoBulk z.1 ≤ 1048576) →
      (∀ (i : Nat) (f : Field), fl[i]? = some f → DataW.trod enc P w 0 sp hd n f.type ((cs.drop f.offset).take (P.cellsOf f.type)) = zs[i]?) →
      ∃ xs, Flds φs (zs.map fun z => uptoBulk z.1).sum xs ∧ Rs w (cs.drop o) xs := by
    intro fl
    induction fl with
    | nil =>
      intro φs o zs ha ho hz _ _
      cases ha
      simp only [layout] at ho
      have := Nat.eq_of_beq_eq_true ho
      refine ⟨[], rfl, ?_⟩
      rw [List.drop_eq_nil_of_le (by omega)]
      exact Rs.nil
    | cons f fl ih =>
      intro φs o zs ha ho hz hzb he
      cases ha with
      | cons hφ ha =>
        simp only [layout, Bool.and_eq_true] at ho
        have h1 := Nat.eq_of_beq_eq_true ho.1
        cases zs with
        | nil => simp at hz
        | cons z zs =>
          have e0 := he 0 f rfl
          simp only [List.getElem?_cons_zero] at e0
          obtain ⟨x1, p1, p2⟩ := hφ H enc w sp hd n _ z.1 z.2 e0 (hzb z List.mem_cons_self)
          obtain ⟨x2, q1, q2⟩ := ih _ _ zs ha ho.2 (by simpa using hz) (fun z' hz' => hzb z' (List.mem_cons_of_mem _ hz')) (fun i g hg => by
            have := he (i + 1) g (by simpa using hg)
            simpa using this)
          refine ⟨x1 ++ x2, ⟨_, _, x1, x2, ?_, rfl, p1, q1⟩, ?_⟩
          · simp only [List.map_cons, List.sum_cons]; exact Nat.le_refl _
          · have hd : cs.drop o = (cs.drop f.offset).take (P.cellsOf f.type) ++ cs.drop (o + P.cellsOf f.type) := by
              rw [h1, ← List.drop_drop, List.take_append_drop]
            rw [hd]
            exact p2.app q2
  have hzb : ∀ z ∈ ys, uptoBulk z.1 ≤ 1048576 := fun z hz => by
    refine Nat.le_trans ?_ hbk
    have : d = .agg (ys.map (·.1)) := congrArg Prod.fst hx
    rw [this]
    have := part_le (List.mem_map_of_mem (f := (·.1)) hz)
    simp only [uptoBulk]
    omega
  obtain ⟨xs, k1, k2⟩ := key fs.toList φs 0 ys hf hl (by simpa using hys.symm) hzb hel'
  refine ⟨xs, ⟨_, ?_, k1⟩, by simpa using k2⟩
  have : d = .agg (ys.map (·.1)) := congrArg Prod.fst hx
  rw [this]
  simp only [uptoBulk, bulkAll_map, List.map_map]
  show (ys.map fun z => uptoBulk z.1).sum + 1 ≤ (ys.map (uptoBulk ∘ fun x => x.1)).sum + 1
  exact Nat.le_refl _

/-! ### Typed readings -/
/-- A list of what reads one by one; what it costs. -/
theorem reads_list {P : Program} {t e : TypeId} {α : Type} (f : α → List AV) (p : α → Prop) (c : α → Nat) (K : Nat) (hu : P.underlying t = some (.slice e)) (hp : 0 < P.cellsOf e)
    (he : Reads P e fun b xs => 1 ≤ b ∧ ∃ a : α, xs = f a ∧ p a ∧ c a ≤ K * b) :
    Reads P t fun b xs => 1 ≤ b ∧ ∃ l : List α, xs = [.slice (l.map f)] ∧ (∀ a ∈ l, p a) ∧ sumN c l + K ≤ K * b ∧ l.length + 1 ≤ b := by
  refine (reads_slice hu hp he).imp fun b xs _ ⟨h1, ys, h2, h3, h4⟩ => ⟨h1, ?_⟩
  have key : ∀ ys : List (Nat × List AV), (∀ p' ∈ ys, 1 ≤ p'.1 ∧ 1 ≤ p'.1 ∧ ∃ a : α, p'.2 = f a ∧ p a ∧ c a ≤ K * p'.1) →
      ∃ l : List α, ys.map (·.2) = l.map f ∧ (∀ a ∈ l, p a) ∧ sumN c l ≤ K * (ys.map (·.1)).sum ∧ l.length ≤ (ys.map (·.1)).sum := by
    intro ys
    induction ys with
    | nil => intro _; exact ⟨[], rfl, fun a ha => (by cases ha), by simp [sumN_nil], by simp⟩
    | cons y ys ih =>
      intro hy
      obtain ⟨l, l1, l2, l3, l4⟩ := ih (fun q hq => hy q (List.mem_cons_of_mem _ hq))
      obtain ⟨y1, _, a, a1, a2, a3⟩ := hy y List.mem_cons_self
      refine ⟨a :: l, ?_, fun x hx => ?_, ?_, ?_⟩
      · rw [List.map_cons, List.map_cons, l1, a1]
      · rcases List.mem_cons.1 hx with rfl | hx
        · exact a2
        · exact l2 x hx
      · rw [sumN_cons, List.map_cons, List.sum_cons, Nat.mul_add]; omega
      · rw [List.length_cons, List.map_cons, List.sum_cons]; omega
  obtain ⟨l, l1, l2, l3, l4⟩ := key ys (fun q hq => ⟨(h4 q hq).1, (h4 q hq).2⟩)
  refine ⟨l, by rw [h2, l1], l2, ?_, by omega⟩
  have := Nat.mul_le_mul_left K h3
  rw [Nat.mul_add] at this
  omega

theorem wf_i64 {n : Int} (h : (Lit.int .i64 n).wf = true) : okI64 n := by
  simp only [Lit.wf, Bool.and_eq_true, decide_eq_true_eq] at h
  exact h
theorem reads_i64 {P : Program} {t : TypeId} (hu : P.underlying t = some (.int .i64)) : Reads P t fun b xs => 1 ≤ b ∧ ∃ n, xs = [.int .i64 n] ∧ okI64 n :=
  (reads_int hu).imp fun _ _ _ ⟨h1, n, h2, h3⟩ => ⟨h1, n, h2, wf_i64 h3⟩
/-- Bytes. -/
theorem reads_bytes {P : Program} {t e : TypeId} (hu : P.underlying t = some (.slice e)) (he : P.underlying e = some (.int .u8)) (hp : P.cellsOf e = 1) :
    Reads P t fun b xs => 1 ≤ b ∧ ∃ l : List Int, xs = [.slice (bsA l)] ∧ okB l ∧ l.length ≤ b := by
  refine (reads_list (fun n : Int => [.int .u8 n]) (fun n => 0 ≤ n ∧ n < 256) (fun _ => 0) 0 hu (by omega) ((reads_int he).imp fun b xs _ ⟨h1, n, h2, h3⟩ => ⟨h1, n, h2, ?_, by simp⟩)).imp
    fun b xs _ ⟨h1, l, h2, h3, _, h5⟩ => ⟨h1, l, h2, h3, by omega⟩
  simp only [Lit.wf, Bool.and_eq_true, decide_eq_true_eq] at h3
  have h4 := h3.1
  have h5 := h3.2
  change 0 ≤ n at h4
  change n ≤ 255 at h5
  omega

/-- The argument itself. -/
theorem Rs.agg {w : World} {cs : Array Value} {xs : List AV} (h : Rs w cs.toList xs) : RV w noM 0 G0 (.agg cs) (.agg xs) :=
  .agg _ _ _ _ (by simpa using h.1) (fun i v x e1 e2 => (h.2 i v x (by simpa using e1) e2).2)
end Go.Abs

/-
How a law's row follows from its contract: arguments read, the call made, all read again.
-/
namespace Go.Abs
open Go Go.Proofs Go.Proofs.YtmainkiflkagjaaGreatDoor Go.ChangeShapes Go.WideShapes Go.ChangeAt Go.RowKit
open Go.Proofs.YtmainkiflkagjaaGreatDoor.Rows (uptoBulk uptoBulkAll)

theorem laidOut : laidOutB Tryz.prog = true := by kernel_rfl

theorem trodAll_stays {H : Type} {enc : TypeId × Value → H} {W W' : World} {sp' : Nat → Bool} : ∀ (ts : List TypeId) (vs : List Value) (ds : List (DataW H)) (p : List MemPlace), DataW.TrodAll enc Tryz.prog W 0 (fun _ => true) true ts vs ds p →
    (∀ t ∈ ts, Tryz.prog.readableRec t = true ∧ t < Tryz.prog.types.size) → (∀ x ∈ p, W.sameAt W' x) → (∀ x ∈ p, sp' x.block = true) → DataW.TrodAll enc Tryz.prog W' 0 sp' true ts vs ds p
  | [], [], [], p, h, _, _, _ => h
  | t :: ts, v :: vs, d :: ds, ps, h, hr, hs, hb => by
    obtain ⟨p, q, h1, h2, rfl⟩ := h
    exact ⟨p, q, WideElems.Trod_stays laidOut (hr t List.mem_cons_self).1 (hr t List.mem_cons_self).2 h1 (fun x hx => hs x (List.mem_append_left _ hx)) (fun x hx => hb x (List.mem_append_left _ hx)),
      trodAll_stays ts vs ds q h2 (fun t' ht' => hr t' (List.mem_cons_of_mem _ ht')) (fun x hx => hs x (List.mem_append_right _ hx)) (fun x hx => hb x (List.mem_append_right _ hx)), rfl⟩
  | [], [], _ :: _, _, h, _, _, _ => h.elim
  | [], _ :: _, _, _, h, _, _, _ => h.elim
  | _ :: _, [], _, _, h, _, _, _ => h.elim
  | _ :: _, _ :: _, [], _, h, _, _, _ => h.elim

set_option maxRecDepth 100000 in
/-- A struct's reading. -/
theorem arg_struct {H : Type} {enc : TypeId × Value → H} {W : World} {r : Reach} {b0 : Nat} {t : TypeId} {fs : Array Field} {φ : Nat → List AV → Prop} {v : Value} {d : DataW H} {p : List MemPlace} (hu : Tryz.prog.underlying t = some (.struct fs)) (hR : Reads Tryz.prog t φ)
    (hv : Value.okWide Tryz.prog W r b0 t v) (h : DataW.Trod enc Tryz.prog W 0 (fun _ => true) true t v d p) (hb : uptoBulk d ≤ 1048576) : ∃ xs, φ (uptoBulk d) xs ∧ RV W noM 0 G0 v (.agg xs) := by
  obtain ⟨fuel, hf⟩ := h
  obtain ⟨xs, h1, h2⟩ := hR H enc W _ _ fuel _ d p hf hb
  have : ∃ cs, v = .agg cs := by
    simp only [Value.okWide, hu] at hv
    obtain ⟨cs, rfl, _⟩ := hv
    exact ⟨cs, rfl⟩
  obtain ⟨cs, rfl⟩ := this
  exact ⟨xs, h1, Rs.agg h2⟩
set_option maxRecDepth 100000 in
/-- A reading of one cell. -/
theorem arg_one {H : Type} {enc : TypeId × Value → H} {W : World} {t : TypeId} {φ : Nat → AV → Prop} {v : Value} {d : DataW H} {p : List MemPlace} (hR : Reads Tryz.prog t fun b xs => ∃ x, xs = [x] ∧ φ b x) (hv : v.cells.toList = [v])
    (h : DataW.Trod enc Tryz.prog W 0 (fun _ => true) true t v d p) (hb : uptoBulk d ≤ 1048576) : ∃ x, φ (uptoBulk d) x ∧ RV W noM 0 G0 v x := by
  obtain ⟨fuel, hf⟩ := h
  obtain ⟨xs, ⟨x, rfl, h1⟩, h2⟩ := hR H enc W _ _ fuel _ d p hf hb
  refine ⟨x, h1, ?_⟩
  exact (h2.2 0 v x (by rw [hv]; rfl) rfl).2

theorem noM_lift {W : World} {v : Value} {x : AV} (h : RV W noM 0 G0 v x) : RV W (MM (fun _ _ => False) G0 []) 0 G0 v x :=
  h.mono (fun k i v h1 _ => ⟨h1, fun hm => by
    rcases hm with hm | ⟨b, l, o, hb, _⟩
    · exact hm
    · cases hb⟩) (Nat.le_refl _) (fun _ _ _ h => h)

inductive ArgsR (W : World) : List Value → List AV → Prop
  | nil : ArgsR W [] []
  | cons {v : Value} {x : AV} {vs : List Value} {xs : List AV} : RV W noM 0 G0 v x → ArgsR W vs xs → ArgsR W (v :: vs) (x :: xs)
theorem ArgsR.tv {W : World} : ∀ {vs : List Value} {xs : List AV}, ArgsR W vs xs → vs.length = xs.length ∧ ∀ (i : Nat) v x, vs[i]? = some v → xs[i]? = some x → RV W noM 0 G0 v x
  | _, _, .nil => ⟨rfl, fun i v x h => by simp at h⟩
  | _, _, .cons h r => ⟨by simp [r.tv.1], fun i v x e1 e2 => by
    cases i with
    | zero => simp only [List.getElem?_cons_zero, Option.some.injEq] at e1 e2; subst e1; subst e2; exact h
    | succ i => exact r.tv.2 i v x (by simpa using e1) (by simpa using e2)⟩

/-- The call. -/
theorem law_call {f : FuncId} {s : Spec} (hs : SGood Tryz.prog f s) {W : World} {args : Array Value} {xs : List AV} (ha : ArgsR W args.toList xs) (hg : s xs [] fun out _ => out = .ret (.bool true)) :
    Calls Tryz.prog f args W fun e W' => e = .returned (.bool true) ∧ W'.os = W.os ∧ W'.output = W.output ∧ ∀ k, k < W.heap.size → W'.heap[k]? = W.heap[k]? := by
  have h := hs.ok xs [] _ hg
  refine (h.2 (fun _ _ => False) G0 W args ⟨fun b l hb => (by cases hb), fun b o hb => (by simp at hb), fun b b' l l' k hb => (by cases hb), fun b l k i hb => (by cases hb), fun k i hm => hm.elim⟩
    ⟨by simpa using ha.tv.1, fun i v x h1 h2 => noM_lift (ha.tv.2 i v x (by simpa using h1) h2)⟩).mono fun e W' ⟨out, H', G', h1, h2, h3, h4⟩ => ?_
  subst h4
  cases h3 with
  | ret v x hv => exact ⟨congrArg _ hv.bool_inv, h1.os, h1.output, fun k hk => h1.far k hk (fun b l hb => by cases hb)⟩

theorem kept_of_far {W W' : World} (h1 : W'.os = W.os) (h2 : W'.output = W.output) (h3 : ∀ k, k < W.heap.size → W'.heap[k]? = W.heap[k]?) (may : MemPlace → Prop) : W.keptBut W' may :=
  ⟨h1, h2, fun i hi => by
    rw [h3 i hi]
    split
    · rename_i e1 e2
      rw [e1] at e2
      cases e2
      exact ⟨rfl, rfl, rfl, fun _ _ => rfl⟩
    · rename_i e1 e2
      rw [e1] at e2
      cases e2
      exact .inr ⟨rfl, rfl⟩
    · rfl⟩
theorem same_of_far {W W' : World} (h3 : ∀ k, k < W.heap.size → W'.heap[k]? = W.heap[k]?) {p : MemPlace} (hp : p.block < W.heap.size) : W.sameAt W' p := by
  cases p with
  | cell b o => simp only [World.sameAt, World.cell?]; rw [h3 b hp]
  | map b => exact h3 b hp

/-- The contract of a law that answers true. -/
theorem law_contract {f : FuncId} {fn : Func} {s : Spec} (hs : SGood Tryz.prog f s) (σ : ChangeSpec) (hvars : σ.vars = []) (hres : fn.resultTypes = #[4]) (hpar : ∀ t ∈ fn.params.toList, Tryz.prog.readableRec t = true ∧ t < Tryz.prog.types.size)
    (H : Type) (enc : TypeId × Value → H) (W : World) (args : Array Value) (ds gs : List (DataW H)) (before : List MemPlace)
    (hW : DataW.Whole enc Tryz.prog fn.params.toList σ.vars false W args.toList ds gs before) (hσ : σ.fn H ds = { results := [.lit (.bool true)], args := ds })
    {xs : List AV} (ha : ArgsR W args.toList xs) (hg : s xs [] fun out _ => out = .ret (.bool true)) :
    Calls Tryz.prog f args W fun e W' => ∃ v, e = .returned v ∧ σ.post enc Tryz.prog fn false true false false W args v W' := by
  have hW' := hW
  obtain ⟨p, q, hA, hV, rfl, hfz, hnd⟩ := hW
  rw [hvars] at hV
  obtain ⟨rfl, rfl⟩ := trodVars_none hV
  refine (law_call hs ha hg).mono fun e W' ⟨he, ho, hout, hfar⟩ => ?_
  subst he
  refine ⟨_, rfl, ds, [], p ++ [], [], p, [], hW', ?_, ?_, ?_, kept_of_far ho hout hfar _, fun h => by cases h⟩
  · rw [List.append_nil, hσ, hres]
    exact trodAll_mk1 (shut_bool Tryz.underlying4 _)
  · rw [List.append_nil, hσ]
    exact trodAll_stays _ _ _ _ hA hpar (fun x hx => same_of_far hfar (hW'.lt x (List.mem_append_left _ hx))) (fun x hx => by simpa using hW'.lt x (List.mem_append_left _ hx))
  · rw [List.append_nil, hσ, hvars]
    rfl
end Go.Abs

/-
How bytes, numbers and requests read.
-/
namespace Go.Abs
open Go Go.Proofs

theorem reads26 : Reads Tryz.prog 24 fun b xs => 1 ≤ b ∧ ∃ l : List Int, xs = [.slice (bsA l)] ∧ okB l ∧ l.length ≤ b :=
  reads_bytes Tryz.underlying24 (by kernel_rfl) (by kernel_rfl)
theorem reads3 : Reads Tryz.prog 3 fun b xs => 1 ≤ b ∧ ∃ n, xs = [.int .i64 n] ∧ okI64 n := reads_i64 (by kernel_rfl)
def okRr (r : RqV) : Prop := okR r ∧ okI64 r.client ∧ okI64 r.stamp
set_option maxRecDepth 100000 in
/-- A request. -/
theorem reads28 : Reads Tryz.prog 39 fun b xs => 1 ≤ b ∧ ∃ r : RqV, xs = rqC r ∧ okRr r ∧ cR r ≤ 64 * b :=
  (reads_struct Tryz.underlying39 (by kernel_rfl) (.cons reads3 (.cons reads3 (.cons reads26 (.cons reads26 .nil))))).imp fun b xs hb h => by
    obtain ⟨b', hb', b1, c1, x1, y1, h1, rfl, ⟨p1, n1, rfl, q1⟩, b2, c2, x2, y2, h2, rfl, ⟨p2, n2, rfl, q2⟩, b3, c3, x3, y3, h3, rfl, ⟨p3, n3, rfl, q3, r3⟩, b4, c4, x4, y4, h4, rfl, ⟨p4, n4, rfl, q4, r4⟩, e⟩ := h
    have e : y4 = [] := e
    subst e
    refine ⟨by omega, ⟨n1, n2, n3, n4⟩, rfl, ⟨⟨⟨q3, ?_⟩, ⟨q4, ?_⟩⟩, q1, q2⟩, ?_⟩
    · show n3.length ≤ _; omega
    · show n4.length ≤ _; omega
    · simp only [cR, cT]; omega
end Go.Abs

/-
How votes, preps, reports and messages read.
-/
namespace Go.Abs
open Go Go.Proofs

def okBr (b : BalV) : Prop := okI64 b.view ∧ okI64 b.turn
def okVr (v : VtV) : Prop := okT v.sig ∧ okI64 v.signer
structure okPrr (p : PrV) : Prop where
  pr : okPr p
  slot : okI64 p.slot
  bal : okBr p.bal
  req : okRr p.req
  cert : ∀ v ∈ p.cert, okVr v
structure okRpr (r : RpV) : Prop where
  rp : okRp r
  bal : okBr r.bal
  replica : okI64 r.replica
  low : okI64 r.low
  stable : ∀ v ∈ r.stable, okVr v
  preps : ∀ p ∈ r.preps, okPrr p
structure okMr (m : MsV) : Prop where
  ms : OkM m
  kind : okI64 m.kind
  bal : okBr m.bal
  slot : okI64 m.slot
  from_ : okI64 m.from_
  to : okI64 m.to
  index : okI64 m.index
  count : okI64 m.count
  req : okRr m.req
  other : okRr m.other
  cert : ∀ v ∈ m.cert, okVr v
  votes : ∀ v ∈ m.votes, okVr v
  order : ∀ n ∈ m.order, okI64 n
  picks : ∀ r ∈ m.picks, okRr r
  reports : ∀ r ∈ m.reports, okRpr r
theorem okT_r {l : List Int} {b : Nat} (h : okB l) (h1 : l.length ≤ b) (h2 : b ≤ 1048576) : okT l := ⟨h, by omega⟩
theorem okVL_r {l : List VtV} {b : Nat} (h : ∀ v ∈ l, okVr v) (h1 : l.length + 1 ≤ b) (h2 : b ≤ 1048576) : okVL l := ⟨by omega, fun v hv => (h v hv).1⟩

set_option maxRecDepth 100000 in
theorem reads25 : Reads Tryz.prog 23 fun b xs => 1 ≤ b ∧ ∃ r : BalV, xs = balC r ∧ okBr r ∧ (fun _ => 0) r ≤ 64 * b := by
  refine (reads_struct Tryz.underlying23 (by kernel_rfl) (.cons reads3 (.cons reads3 .nil))).imp fun b xs hb h => ?_
  obtain ⟨b0, hb0, b1, c1, x1, y1, h1, rfl, ⟨p1, n1, rfl, q1⟩, b2, c2, x2, y2, h2, rfl, ⟨p2, n2, rfl, q2⟩, e⟩ := h
  have e : y2 = [] := e
  subst e
  refine ⟨by omega, ⟨n1, n2⟩, rfl, ⟨q1, q2⟩, ?_⟩
  exact Nat.zero_le _

set_option maxRecDepth 100000 in
theorem reads106 : Reads Tryz.prog 104 fun b xs => 1 ≤ b ∧ ∃ r : VtV, xs = vtC r ∧ okVr r ∧ cV r ≤ 64 * b := by
  refine (reads_struct Tryz.underlying104 (by kernel_rfl) (.cons reads3 (.cons reads26 .nil))).imp fun b xs hb h => ?_
  obtain ⟨b0, hb0, b1, c1, x1, y1, h1, rfl, ⟨p1, n1, rfl, q1⟩, b2, c2, x2, y2, h2, rfl, ⟨p2, n2, rfl, q2, r2⟩, e⟩ := h
  have e : y2 = [] := e
  subst e
  refine ⟨by omega, ⟨n1, n2⟩, rfl, ⟨okT_r q2 r2 (by omega), q1⟩, ?_⟩
  simp only [cV, cT]
  omega

theorem reads29 : Reads Tryz.prog 25 fun b xs => 1 ≤ b ∧ ∃ l : List VtV, xs = [.slice (vtCL l)] ∧ (∀ v ∈ l, okVr v) ∧ sumN cV l + 64 ≤ 64 * b ∧ l.length + 1 ≤ b :=
  reads_list vtC okVr cV 64 Tryz.underlying25 (of_decide_eq_true (by kernel_rfl)) reads106

set_option maxRecDepth 100000 in
theorem reads132 : Reads Tryz.prog 62 fun b xs => 1 ≤ b ∧ ∃ r : PrV, xs = prC r ∧ okPrr r ∧ cPr r ≤ 64 * b := by
  refine (reads_struct Tryz.underlying62 (by kernel_rfl) (.cons reads3 (.cons reads25 (.cons reads28 (.cons reads29 .nil))))).imp fun b xs hb h => ?_
  obtain ⟨b0, hb0, b1, c1, x1, y1, h1, rfl, ⟨p1, n1, rfl, q1⟩, b2, c2, x2, y2, h2, rfl, ⟨p2, n2, rfl, q2, r2⟩, b3, c3, x3, y3, h3, rfl, ⟨p3, n3, rfl, q3, r3⟩, b4, c4, x4, y4, h4, rfl, ⟨p4, n4, rfl, q4, r4, s4⟩, e⟩ := h
  have e : y4 = [] := e
  subst e
  refine ⟨by omega, ⟨n1, n2, n3, n4⟩, rfl, ⟨⟨q3.1, okVL_r q4 s4 (by omega)⟩, q1, q2, q3, q4⟩, ?_⟩
  simp only [cPr, cVs]
  omega

theorem reads68 : Reads Tryz.prog 26 fun b xs => 1 ≤ b ∧ ∃ l : List PrV, xs = [.slice (prCL l)] ∧ (∀ v ∈ l, okPrr v) ∧ sumN cPr l + 64 ≤ 64 * b ∧ l.length + 1 ≤ b :=
  reads_list prC okPrr cPr 64 Tryz.underlying26 (of_decide_eq_true (by kernel_rfl)) reads132

set_option maxRecDepth 100000 in
theorem reads70 : Reads Tryz.prog 28 fun b xs => 1 ≤ b ∧ ∃ r : RpV, xs = rpC r ∧ okRpr r ∧ cRp r ≤ 64 * b := by
  refine (reads_struct Tryz.underlying28 (by kernel_rfl) (.cons reads25 (.cons reads3 (.cons reads3 (.cons reads26 (.cons reads29 (.cons reads68 (.cons reads26 .nil)))))))).imp fun b xs hb h => ?_
  obtain ⟨b0, hb0, b1, c1, x1, y1, h1, rfl, ⟨p1, n1, rfl, q1, r1⟩, b2, c2, x2, y2, h2, rfl, ⟨p2, n2, rfl, q2⟩, b3, c3, x3, y3, h3, rfl, ⟨p3, n3, rfl, q3⟩, b4, c4, x4, y4, h4, rfl, ⟨p4, n4, rfl, q4, r4⟩, b5, c5, x5, y5, h5, rfl, ⟨p5, n5, rfl, q5, r5, s5⟩, b6, c6, x6, y6, h6, rfl, ⟨p6, n6, rfl, q6, r6, s6⟩, b7, c7, x7, y7, h7, rfl, ⟨p7, n7, rfl, q7, r7⟩, e⟩ := h
  have e : y7 = [] := e
  subst e
  refine ⟨by omega, ⟨n1, n2, n3, n4, n5, n6, n7⟩, rfl, ⟨⟨okT_r q4 r4 (by omega), okVL_r q5 s5 (by omega), ⟨(by show n6.length ≤ _; omega), fun p hp => (q6 p hp).pr⟩, okT_r q7 r7 (by omega)⟩, q1, q2, q3, q5, q6⟩, ?_⟩
  simp only [cRp, cVs, cT]
  omega

theorem reads31 : Reads Tryz.prog 33 fun b xs => 1 ≤ b ∧ ∃ l : List RpV, xs = [.slice (rpCL l)] ∧ (∀ v ∈ l, okRpr v) ∧ sumN cRp l + 64 ≤ 64 * b ∧ l.length + 1 ≤ b :=
  reads_list rpC okRpr cRp 64 Tryz.underlying33 (of_decide_eq_true (by kernel_rfl)) reads70
theorem reads30 : Reads Tryz.prog 41 fun b xs => 1 ≤ b ∧ ∃ l : List RqV, xs = [.slice (rqCL l)] ∧ (∀ v ∈ l, okRr v) ∧ sumN cR l + 64 ≤ 64 * b ∧ l.length + 1 ≤ b :=
  reads_list rqC okRr cR 64 Tryz.underlying41 (of_decide_eq_true (by kernel_rfl)) reads28
theorem reads22 : Reads Tryz.prog 40 fun b xs => 1 ≤ b ∧ ∃ l : List Int, xs = [.slice (inCL l)] ∧ (∀ v ∈ l, okI64 v) ∧ sumN (fun _ => 6) l + 64 ≤ 64 * b ∧ l.length + 1 ≤ b :=
  reads_list inC okI64 (fun _ => 6) 64 Tryz.underlying40 (of_decide_eq_true (by kernel_rfl)) (reads3.imp fun b xs _ ⟨h1, n, h2, h3⟩ => ⟨h1, n, h2, h3, by omega⟩)

set_option maxRecDepth 100000 in
open Go.WideShapes Go.ChangeShapes in
/-- A number that is handed in. -/
theorem arg_int {H : Type} {enc : TypeId × Value → H} {W : World} {r : Reach} {b0 : Nat} {v : Value} {d : DataW H} {p : List MemPlace} (hv : Value.okWide Tryz.prog W r b0 3 v)
    (h : DataW.Trod enc Tryz.prog W 0 (fun _ => true) true 3 v d p) : ∃ n : Int, RV W noM 0 G0 v (.int .i64 n) ∧ okI64 n := by
  obtain ⟨n, rfl, _, _, hw⟩ := open_int Tryz.underlying3 hv h
  exact ⟨n, .int .., wf_i64 hw⟩

end Go.Abs

