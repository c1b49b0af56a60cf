/-
An abstract machine over values as trees: a call that is handed some of the objects.
-/
import Derived.Test.YtmainkiflkagjaaGreatDoorAbw5
import Derived.Shelf.LaysM
import Derived.Shelf.RegionOpenPlain
import Derived.Shelf.Bytes.LenAt
import Derived.Shelf.Bytes.TryGrowAt
import Derived.Shelf.Bytes.GrowSlice
import Derived.Lib.ByteType
import Derived.Lib.BufferAt
import Derived.Lib.BufferOwn
import Derived.Lib.Walk
import Derived.Lib.Buffer
import Derived.Lib.BufferMore
import Derived.Lib.BufferGrow
import Derived.Lib.Hide
import Derived.Laws.MakeOwn
import Derived.WalkKit
import Derived.RegionTactic
import Derived.Deep.RegionWith
import Derived.Deep.Draws
import Derived.BigCall
import Derived.BigGuard
namespace Go.Abs
open Go
variable {P : Program}

/-- Back from a callee's numbers. -/
def backN (n : Nat) (ids : List Nat) (m : Nat) (j : Nat) : Option Nat :=
  if j < ids.length then ids[j]? else if j < m then some (n + (j - ids.length)) else none

def outR (ρ : Nat → Option Nat) : AOut → AOut
  | .ret v => .ret (ren ρ v)
  | .pan v => .pan (ren ρ v)

/-- The objects behind the call. -/
def mergeH (H : Heap) (ids : List Nat) (Hs : Heap) : Heap :=
  (H.zipIdx.map fun x => match ids.idxOf? x.2 with
    | some j => renH (backN H.length ids Hs.length) (Hs.getD j .dead)
    | none => x.1) ++ (Hs.drop ids.length).map (renH (backN H.length ids Hs.length))

def subH (H : Heap) (ids : List Nat) : Heap := ids.map fun b => renH (ids.idxOf? ·) (H.getD b .dead)

theorem renH_mut (ρ : Nat → Option Nat) (o : HO) (i : Nat) : (renH ρ o).mut i ↔ o.mut i := by cases o <;> exact Iff.rfl

theorem ObjR.ren {w w' : World} {M M' : Mut} {n n' : Nat} {G G' : Gh} {ρ : Nat → Option Nat} {l : Option Loc} {o : HO} (h : ObjR w M n G l o)
    (hcell : ∀ k i v, w.cell? ⟨k, i, none⟩ = some v → ¬ M k i → w'.cell? ⟨k, i, none⟩ = some v ∧ ¬ M' k i)
    (hρ : ∀ b b', ρ b = some b' → b' < n' ∧ ∀ l, G' b' = some l → G b = some l) (hb : ∀ l0 k, l = some l0 → l0.block = some k → w'.heap[k]? = w.heap[k]?) : ObjR w' M' n' G' l (renH ρ o) := by
  cases o with
  | dead => exact h
  | var cs =>
    obtain ⟨k, cv, t, rfl, hk, hs, hc⟩ := h
    refine ⟨k, cv, t, rfl, (hb _ k rfl rfl).trans hk, by rw [renL_length]; exact hs, fun q v x g1 g2 => ?_⟩
    rw [renL_get, Option.map_eq_some_iff] at g2
    obtain ⟨y, hy, rfl⟩ := g2
    exact ⟨(hc q v y g1 hy).1, (hc q v y g1 hy).2.ren hcell hρ⟩
  | row wr e sz es =>
    obtain ⟨h0, hl, h⟩ := h
    refine ⟨h0, hl, ?_⟩
    rcases h with ⟨rfl, a, rfl⟩ | ⟨g, cap, cur, rfl, hk, h1, h2, h3, h4, h5⟩
    · exact .inl ⟨rfl, a, rfl⟩
    · exact .inr ⟨g, cap, cur, rfl, (hb _ g rfl rfl).trans hk, h1, h2, h3, h4, fun i el j x u a b c => (h5 i el j x u a b c).mono hcell (Nat.le_refl _) (fun _ _ _ h => h)⟩
  | iter s pos =>
    obtain ⟨k, rfl, hk⟩ := h
    exact ⟨k, rfl, (hb _ k rfl rfl).trans hk⟩

theorem idx_some {ids : List Nat} {b : Nat} (h : b ∈ ids) : ∃ i, ids.idxOf? b = some i := by
  rw [← List.isSome_idxOf?] at h
  exact Option.isSome_iff_exists.1 h
theorem idx_none {ids : List Nat} {b : Nat} (h : ids.idxOf? b = none) : b ∉ ids := by
  rwa [List.idxOf?_eq_none_iff] at h
theorem idx_at {ids : List Nat} (hnd : ids.Nodup) {b i : Nat} (h : ids[i]? = some b) : ids.idxOf? b = some i := by
  obtain ⟨j, hj⟩ := idx_some (List.mem_of_getElem? h)
  have := idx_get hj
  rw [(List.getElem?_inj (List.getElem?_eq_some_iff.1 h).1 hnd).1 (h.trans this.symm)]
  exact hj

theorem sub_call {f : FuncId} {args : List AV} {H : Heap} {ids : List Nat} {Q : AOut → Heap → Prop} (hnd : ids.Nodup) (hlt : ∀ b ∈ ids, b < H.length)
    (h : FOK P f (renL (ids.idxOf? ·) args) (subH H ids) fun out Hs => Q (outR (backN H.length ids Hs.length) out) (mergeH H ids Hs)) : FOK P f args H Q := by
  refine ⟨h.1, fun Mx G w cargs hs ht => ?_⟩
  let Mx' : Mut := fun k i => Mx k i ∨ ∃ b l o, b ∉ ids ∧ G b = some l ∧ H[b]? = some o ∧ l.block = some k ∧ o.mut i
  let Gs : Gh := fun i => (ids[i]?).bind G
  have hsl : (subH H ids).length = ids.length := by simp [subH]
  have hGs : ∀ i l, Gs i = some l → ∃ b, ids[i]? = some b ∧ G b = some l := fun i l h => by simp only [Gs, Option.bind_eq_some_iff] at h; exact h
  have hsub : ∀ (i : Nat) o', (subH H ids)[i]? = some o' → ∃ b, ids[i]? = some b ∧ o' = renH (ids.idxOf? ·) (H.getD b .dead) := fun i o' h => by
    simp only [subH, List.getElem?_map, Option.map_eq_some_iff] at h
    obtain ⟨b, h1, h2⟩ := h
    exact ⟨b, h1, h2.symm⟩
  have hgetD : ∀ b, b < H.length → H[b]? = some (H.getD b .dead) := fun b hb => by rw [List.getD_eq_getElem?_getD, List.getElem?_eq_getElem hb]; rfl
  have hMM : ∀ k i, MM Mx' Gs (subH H ids) k i → MM Mx G H k i := by
    rintro k i ((hx | ⟨b, l, o, _, h2, h3, h4, h5⟩) | ⟨i', l, o', h1, h2, h3, h4⟩)
    · exact .inl hx
    · exact .inr ⟨b, l, o, h2, h3, h4, h5⟩
    · obtain ⟨b, g1, g2⟩ := hGs i' l h1
      obtain ⟨b2, g3, rfl⟩ := hsub i' o' h2
      rw [g1] at g3
      cases g3
      exact .inr ⟨b, l, _, g2, hgetD b (hs.dom b l g2), h3, (renH_mut _ _ _).1 h4⟩
  have hcell0 : ∀ k i v, w.cell? ⟨k, i, none⟩ = some v → ¬ MM Mx G H k i → w.cell? ⟨k, i, none⟩ = some v ∧ ¬ MM Mx' Gs (subH H ids) k i := fun k i v h1 h2 => ⟨h1, fun h => h2 (hMM k i h)⟩
  have hρ0 : ∀ b b', ids.idxOf? b = some b' → b' < (subH H ids).length ∧ ∀ l, Gs b' = some l → G b = some l := fun b b' h => by
    have hb := idx_get h
    refine ⟨by rw [hsl]; exact (List.getElem?_eq_some_iff.1 hb).1, fun l hl => ?_⟩
    obtain ⟨b1, h1, h2⟩ := hGs b' l hl
    rw [hb] at h1
    cases h1
    exact h2
  have hs' : Sim Mx' Gs (subH H ids) w := by
    refine ⟨fun i l h => ?_, fun i o' h => ?_, fun i j l1 l2 k h1 h2 k1 k2 => ?_, fun i l k q h hk hx => ?_, fun k i h => ?_⟩
    · obtain ⟨b, h1, _⟩ := hGs i l h
      rw [hsl]
      exact (List.getElem?_eq_some_iff.1 h1).1
    · obtain ⟨b, h1, rfl⟩ := hsub i o' h
      have hgi : Gs i = G b := by simp [Gs, h1]
      rw [hgi]
      exact (hs.obj b _ (hgetD b (hlt b (List.mem_of_getElem? h1)))).ren hcell0 hρ0 (fun _ _ _ _ => rfl)
    · obtain ⟨b1, g1, g2⟩ := hGs i l1 h1
      obtain ⟨b2, g3, g4⟩ := hGs j l2 h2
      have := hs.inj b1 b2 l1 l2 k g2 g4 k1 k2
      subst this
      exact (List.getElem?_inj (List.getElem?_eq_some_iff.1 g1).1 hnd).1 (g1.trans g3.symm)
    · obtain ⟨b, g1, g2⟩ := hGs i l h
      rcases hx with hx | ⟨b2, l2, o2, m1, m2, m3, m4, _⟩
      · exact hs.ext b l k q g2 hk hx
      · have := hs.inj b b2 l l2 k g2 m2 hk m4
        subst this
        exact m1 (List.mem_of_getElem? g1)
    · rcases h with h | ⟨b, l, o, _, h2, _, h4, _⟩
      · exact hs.lt k i h
      · exact hs.blk_lt h2 h4
  have ht' : TV w (MM Mx' Gs (subH H ids)) (subH H ids).length Gs cargs (renL (ids.idxOf? ·) args) := by
    refine ⟨by rw [renL_length]; exact ht.1, fun i v x h1 h2 => ?_⟩
    rw [renL_get, Option.map_eq_some_iff] at h2
    obtain ⟨y, hy, rfl⟩ := h2
    exact (ht.2 i v y h1 hy).ren hcell0 hρ0
  refine (h.2 Mx' Gs w cargs hs' ht').mono fun e w' ⟨out, Hs, Gn, hst, hsim, her, hq⟩ => ?_
  rw [hsl] at hst
  have hn0 : ids.length ≤ Hs.length := hst.len.2
  let σ := backN H.length ids Hs.length
  let G' : Gh := fun b => if b < H.length then (match ids.idxOf? b with | some j => Gn j | none => G b) else Gn (b - H.length + ids.length)
  have hml : (mergeH H ids Hs).length = H.length + (Hs.length - ids.length) := by simp [mergeH]
  have hA : ∀ b, b < H.length → ids.idxOf? b = none → G' b = G b ∧ (mergeH H ids Hs)[b]? = H[b]? := fun b hb hi => by
    refine ⟨by simp [G', hb, hi], ?_⟩
    rw [mergeH, List.getElem?_append_left (by simpa using hb), List.getElem?_map, List.getElem?_zipIdx, List.getElem?_eq_getElem hb]
    simp [hi]
  have hB : ∀ b j, b < H.length → ids.idxOf? b = some j → G' b = Gn j ∧ (mergeH H ids Hs)[b]? = some (renH σ (Hs.getD j .dead)) := fun b j hb hi => by
    refine ⟨by simp [G', hb, hi], ?_⟩
    rw [mergeH, List.getElem?_append_left (by simpa using hb), List.getElem?_map, List.getElem?_zipIdx, List.getElem?_eq_getElem hb]
    simp [hi, σ]
  have hC : ∀ b, ¬ b < H.length → G' b = Gn (b - H.length + ids.length) ∧ (mergeH H ids Hs)[b]? = (Hs[b - H.length + ids.length]?).map (renH σ) := fun b hb => by
    refine ⟨by simp [G', hb], ?_⟩
    rw [mergeH, List.getElem?_append_right (by simp; omega), List.getElem?_map, List.getElem?_drop]
    simp only [List.length_map, List.length_zipIdx]
    rw [Nat.add_comm ids.length]
  -- every object is an old one, or one of the callee's
  have hall : ∀ b l, G' b = some l → (b < H.length ∧ b ∉ ids ∧ G b = some l) ∨ ∃ j, Gn j = some l ∧ σ j = some b := fun b l hg => by
    by_cases hb : b < H.length
    · cases hi : ids.idxOf? b with
      | none => rw [(hA b hb hi).1] at hg; exact .inl ⟨hb, idx_none hi, hg⟩
      | some j =>
        rw [(hB b j hb hi).1] at hg
        have hj := idx_get hi
        exact .inr ⟨j, hg, by simp only [σ, backN]; rw [if_pos (List.getElem?_eq_some_iff.1 hj).1, hj]⟩
    · rw [(hC b hb).1] at hg
      have := hsim.dom _ _ hg
      exact .inr ⟨_, hg, by simp only [σ, backN]; rw [if_neg (by omega), if_pos this]; congr 1; omega⟩
  have hσ : ∀ j b, σ j = some b → b < (mergeH H ids Hs).length ∧ G' b = Gn j ∧ (mergeH H ids Hs)[b]? = (Hs[j]?).map (renH σ) := fun j b hj => by
    simp only [σ, backN] at hj
    split at hj
    · rename_i hjl
      have hb := hlt b (List.mem_of_getElem? hj)
      have hi := idx_at hnd hj
      obtain ⟨h1, h2⟩ := hB b j hb hi
      refine ⟨by omega, h1, ?_⟩
      rw [h2, List.getD_eq_getElem?_getD, List.getElem?_eq_getElem (show j < Hs.length by omega)]
      rfl
    · split at hj
      · injection hj with hj
        subst hj
        obtain ⟨h1, h2⟩ := hC (H.length + (j - ids.length)) (by omega)
        rw [show H.length + (j - ids.length) - H.length + ids.length = j by omega] at h1 h2
        exact ⟨by omega, h1, h2⟩
      · cases hj
  have hMM2 : ∀ k i, MM Mx G' (mergeH H ids Hs) k i → MM Mx' Gn Hs k i := by
    rintro k i (hx | ⟨b, l, o, h1, h2, h3, h4⟩)
    · exact .inl (.inl hx)
    · rcases hall b l h1 with ⟨hb, hni, hg⟩ | ⟨j, hg, hj⟩
      · have hi : ids.idxOf? b = none := by rw [List.idxOf?_eq_none_iff]; exact hni
        rw [(hA b hb hi).2] at h2
        exact .inl (.inr ⟨b, l, o, hni, hg, h2, h3, h4⟩)
      · obtain ⟨_, _, h5⟩ := hσ j b hj
        rw [h5, Option.map_eq_some_iff] at h2
        obtain ⟨o', ho', rfl⟩ := h2
        exact .inr ⟨j, l, o', hg, ho', h3, (renH_mut _ _ _).1 h4⟩
  have hcell : ∀ k i v, w.cell? ⟨k, i, none⟩ = some v → ¬ MM Mx G H k i → w'.cell? ⟨k, i, none⟩ = some v ∧ ¬ MM Mx G' (mergeH H ids Hs) k i := fun k i v h1 h2 => by
    obtain ⟨a1, a2⟩ := hst.still k i v h1 (fun h => h2 (hMM k i h))
    exact ⟨a1, fun h => a2 (hMM2 k i h)⟩
  have hcell' : ∀ k i v, w'.cell? ⟨k, i, none⟩ = some v → ¬ MM Mx' Gn Hs k i → w'.cell? ⟨k, i, none⟩ = some v ∧ ¬ MM Mx G' (mergeH H ids Hs) k i := fun k i v h1 h2 => ⟨h1, fun h => h2 (hMM2 k i h)⟩
  have hρ : ∀ j b, σ j = some b → b < (mergeH H ids Hs).length ∧ ∀ l, G' b = some l → Gn j = some l := fun j b hj => ⟨(hσ j b hj).1, fun l hl => by rw [(hσ j b hj).2.1] at hl; exact hl⟩
  have hGG : ∀ b l, b < H.length → G' b = some l → G b = some l := fun b l hb hg => by
    cases hi : ids.idxOf? b with
    | none => rw [(hA b hb hi).1] at hg; exact hg
    | some j =>
      rw [(hB b j hb hi).1] at hg
      have hj := idx_get hi
      exact (hρ0 b j hi).2 l (hst.gh j l (List.getElem?_eq_some_iff.1 hj).1 hg)
  have hnew : ∀ j l k, Gn j = some l → l.block = some k → (∃ b0 l0, b0 ∈ ids ∧ G b0 = some l0 ∧ l0.block = some k) ∨ w.heap.size ≤ k := fun j l k hg hk => by
    rcases hst.new j l k hg hk with ⟨i0, l0, g1, g2⟩ | hge
    · obtain ⟨b, m1, m2⟩ := hGs i0 l0 g1
      exact .inl ⟨b, l0, List.mem_of_getElem? m1, m2, g2⟩
    · exact .inr hge
  have hfarA : ∀ b l k, b ∉ ids → G b = some l → l.block = some k → w'.heap[k]? = w.heap[k]? := fun b l k hb hg hk => hst.far k (hs.blk_lt hg hk) (fun i l1 h1 hk1 => by
    obtain ⟨b1, m1, m2⟩ := hGs i l1 h1
    have := hs.inj b1 b l1 l k m2 hg hk1 hk
    subst this
    exact hb (List.mem_of_getElem? m1))
  have hfin : Sim Mx G' (mergeH H ids Hs) w' := by
    refine ⟨fun b l h => ?_, fun b o h => ?_, fun b b' l l' k h1 h2 k1 k2 => ?_, fun b l k i h hk hx => ?_, fun k i h => Nat.lt_of_lt_of_le (hs.lt k i h) hst.size⟩
    · rcases hall b l h with ⟨hb, _, _⟩ | ⟨j, _, hj⟩
      · omega
      · exact (hσ j b hj).1
    · by_cases hb : b < H.length
      · cases hi : ids.idxOf? b with
        | none =>
          obtain ⟨e1, e2⟩ := hA b hb hi
          rw [e2] at h
          rw [e1]
          exact (hs.obj b o h).mono hcell (by omega) hGG (fun l k hl hk => hfarA b l k (idx_none hi) hl hk)
        | some j =>
          obtain ⟨e1, e2⟩ := hB b j hb hi
          rw [e2] at h
          cases h
          rw [e1]
          have hjl : j < Hs.length := by have := (List.getElem?_eq_some_iff.1 (idx_get hi)).1; omega
          exact (hsim.obj j (Hs.getD j .dead) (by rw [List.getD_eq_getElem?_getD, List.getElem?_eq_getElem hjl]; rfl)).ren hcell' hρ (fun _ _ _ _ => rfl)
      · obtain ⟨e1, e2⟩ := hC b hb
        rw [e2, Option.map_eq_some_iff] at h
        obtain ⟨o', ho', rfl⟩ := h
        rw [e1]
        exact (hsim.obj _ o' ho').ren hcell' hρ (fun _ _ _ _ => rfl)
    · rcases hall b l h1 with ⟨hb, hni, hg⟩ | ⟨j, hg, hj⟩ <;> rcases hall b' l' h2 with ⟨hb', hni', hg'⟩ | ⟨j', hg', hj'⟩
      · exact hs.inj b b' l l' k hg hg' k1 k2
      · rcases hnew j' l' k hg' k2 with ⟨b0, l0, m1, m2, m3⟩ | hge
        · have := hs.inj b b0 l l0 k hg m2 k1 m3
          subst this
          exact absurd m1 hni
        · have := hs.blk_lt hg k1; omega
      · rcases hnew j l k hg k1 with ⟨b0, l0, m1, m2, m3⟩ | hge
        · have := hs.inj b' b0 l' l0 k hg' m2 k2 m3
          subst this
          exact absurd m1 hni'
        · have := hs.blk_lt hg' k2; omega
      · have := hsim.inj j j' l l' k hg hg' k1 k2
        subst this
        rw [hj] at hj'
        cases hj'
        rfl
    · rcases hall b l h with ⟨hb, hni, hg⟩ | ⟨j, hg, hj⟩
      · exact hs.ext b l k i hg hk hx
      · exact hsim.ext j l k i hg hk (.inl hx)
  refine ⟨outR σ out, mergeH H ids Hs, G', ⟨hst.os, hst.tape, hst.output, hst.size, ⟨Nat.le_refl _, by omega⟩, fun k hk hn => hst.far k hk (fun i l h1 hk1 => ?_), hcell, hGG, fun b l k h hk => ?_⟩, hfin, ?_, hq⟩
  · obtain ⟨b, m1, m2⟩ := hGs i l h1
    exact hn b l m2 hk1
  · rcases hall b l h with ⟨hb, hni, hg⟩ | ⟨j, hg, hj⟩
    · exact .inl ⟨b, l, hg, hk⟩
    · rcases hnew j l k hg hk with ⟨b0, l0, _, m2, m3⟩ | hge
      · exact .inl ⟨b0, l0, m2, m3⟩
      · exact .inr hge
  · cases her with
    | ret v x hr => exact .ret v _ (hr.ren hcell' hρ)
    | pan v x hr => exact .pan v _ (hr.ren hcell' hρ)

end Go.Abs

/-
An abstract machine over values as trees: calls that touch no object; tables of contracts.
-/
namespace Go.Abs
open Go
variable {P : Program}

theorem frzA_sound {Mx : Mut} {G : Gh} {w : World} {H : Heap} (hs : Sim Mx G H w) {v : Value} {x : AV} (hx : RV w (MM Mx G H) H.length G v x) :
    Sim Mx G (frzA H x).2 w ∧ Step H.length Mx G H w G (frzA H x).2 w ∧ (frzA H x).2.length = H.length ∧ RV w (MM Mx G (frzA H x).2) 0 G0 v (frzA H x).1 := by
  cases x with
  | agg cs =>
    obtain ⟨vs, rfl, hl, hc⟩ := hx.agg_inv
    obtain ⟨h1, h2, h3, h4, h5⟩ := frzs_sound cs H vs.toList hs (by simpa using hl) (fun i u y e1 e2 => hc i u y (by simpa using e1) e2)
    exact ⟨h1, h2, h3, .agg _ _ _ _ (by rw [hl]; exact h4.symm) (fun i u y e1 e2 => h5 i u y (by simpa using e1) e2)⟩
  | _ => exact frz_sound hs hx

theorem frzAs_sound {Mx : Mut} {G : Gh} {w : World} : ∀ (xs : List AV) (H : Heap) (vs : List Value), Sim Mx G H w → vs.length = xs.length →
    (∀ (i : Nat) v x, vs[i]? = some v → xs[i]? = some x → RV w (MM Mx G H) H.length G v x) →
    Sim Mx G (frzAs H xs).2 w ∧ Step H.length Mx G H w G (frzAs H xs).2 w ∧ (frzAs H xs).2.length = H.length ∧ (frzAs H xs).1.length = xs.length ∧
      ∀ (i : Nat) v y, vs[i]? = some v → (frzAs H xs).1[i]? = some y → RV w (MM Mx G (frzAs H xs).2) 0 G0 v y
  | [], H, vs, hs, _, _ => ⟨hs, Step.refl, rfl, rfl, fun i v y _ h => by simp [frzAs] at h⟩
  | x :: r, H, [], hs, hl, _ => by simp at hl
  | x :: r, H, v :: vs, hs, hl, hx => by
    obtain ⟨h1, h2, h3, h4⟩ := frzA_sound hs (hx 0 v x rfl rfl)
    obtain ⟨k1, k2, k3, k4, k5⟩ := frzAs_sound r (frzA H x).2 vs h1 (by simpa using hl) (fun i u y e1 e2 => h2.rv (hx (i + 1) u y (by simpa using e1) (by simpa using e2)))
    refine ⟨k1, h2.trans (by omega) k2, by simp only [frzAs]; omega, by simp only [frzAs, List.length_cons]; omega, fun i u y e1 e2 => ?_⟩
    cases i with
    | zero =>
      simp only [frzAs, List.getElem?_cons_zero, Option.some.injEq] at e1 e2
      subst e1; subst e2
      exact h4.mono (fun k i v g1 g2 => k2.still k i v g1 g2) (Nat.le_refl _) (fun _ _ _ h => h)
    | succ i =>
      simp only [frzAs, List.getElem?_cons_succ] at e1 e2
      exact k5 i u y e1 e2

theorem FOK.imp {f : FuncId} {args : List AV} {H : Heap} {Q Q' : AOut → Heap → Prop} (h : FOK P f args H Q) (hQ : ∀ o h, Q o h → Q' o h) : FOK P f args H Q' :=
  ⟨h.1, fun Mx G w cargs hs ht => (h.2 Mx G w cargs hs ht).mono fun _ _ ⟨out, H', G', h1, h2, h3, h4⟩ => ⟨out, H', G', h1, h2, h3, hQ _ _ h4⟩⟩

/-- What a call of a callee that is handed no object leaves. -/
theorem pure_run {f : FuncId} {args : List AV} {H : Heap} {Q0 : AOut → Prop} (h : FOK P f (frzAs H args).1 [] fun out Hs => Hs = [] ∧ Q0 out) :
    Enters P f ∧ ∀ Mx G w cargs, Sim Mx G H w → TV w (MM Mx G H) H.length G cargs args → Calls P f cargs w fun e w' =>
      w'.os = w.os ∧ w'.tape = w.tape ∧ w'.output = w.output ∧ w.heap.size ≤ w'.heap.size ∧ (∀ k, k < w.heap.size → w'.heap[k]? = w.heap[k]?) ∧
        ∃ out, ER w' (MM Mx G (frzAs H args).2) 0 G0 e out ∧ Q0 out := by
  refine ⟨h.1, fun Mx G w cargs hs ht => ?_⟩
  obtain ⟨k1, k2, k3, k4, k5⟩ := frzAs_sound args H cargs.toList hs (by simpa using ht.1) (fun i v x e1 e2 => ht.2 i v x (by simpa using e1) e2)
  refine (h.2 (MM Mx G (frzAs H args).2) G0 w cargs ⟨fun b l hb => (by cases hb), fun b o hb => by simp at hb, fun b b' l l' k hb => (by cases hb), fun b l k i hb => (by cases hb), fun k i hm => ?_⟩ ⟨?_, fun i v x e1 e2 => ?_⟩).mono fun e w' ⟨out, Hs, Gs, h1, h2, h3, h4, h5⟩ => ?_
  · rcases hm with hm | ⟨b, l, o, g1, g2, g3, _⟩
    · exact k1.lt k i hm
    · exact k1.blk_lt g1 g3
  · rw [k4]; exact ht.1
  · refine (k5 i v x (by simpa using e1) e2).mono (fun k i v g1 g2 => ⟨g1, fun hm => ?_⟩) (Nat.le_refl _) (fun _ _ _ h => h)
    rcases hm with hm | ⟨b, l, o, hb, _⟩
    · exact g2 hm
    · cases hb
  · subst h4
    refine ⟨h1.os, h1.tape, h1.output, h1.size, fun k hk => h1.far k hk (fun b l hb => by cases hb), out, ?_, h5⟩
    have hv : ∀ {v x}, RV w' (MM (MM Mx G (frzAs H args).2) Gs []) 0 Gs v x → RV w' (MM Mx G (frzAs H args).2) 0 G0 v x := fun hv => hv.mono (fun k i v g1 g2 => ⟨g1, fun hm => g2 (.inl hm)⟩) (Nat.le_refl _) (fun b l hb => absurd hb (Nat.not_lt_zero _))
    cases h3 with
    | ret v x hr => exact .ret v x (hv hr)
    | pan v x hr => exact .pan v x (hv hr)

/-- The old blocks stay: all objects stand as they stood. -/
theorem Sim.grown {Mx : Mut} {G : Gh} {H : Heap} {w w' : World} (hs : Sim Mx G H w) (h1 : w'.os = w.os) (h2 : w'.tape = w.tape) (h3 : w'.output = w.output) (h4 : w.heap.size ≤ w'.heap.size) (h5 : ∀ k, k < w.heap.size → w'.heap[k]? = w.heap[k]?) :
    Sim Mx G H w' ∧ Step H.length Mx G H w G H w' := by
  have hcell : ∀ k i v, w.cell? ⟨k, i, none⟩ = some v → w'.cell? ⟨k, i, none⟩ = some v := fun k i v hc => by
    have hlt : k < w.heap.size := by
      rcases Nat.lt_or_ge k w.heap.size with h | h
      · exact h
      · simp [World.cell?, Array.getElem?_eq_none h] at hc
    simp only [World.cell?] at hc ⊢
    rw [h5 k hlt]
    exact hc
  refine ⟨⟨hs.dom, fun b o hb => ?_, hs.inj, hs.ext, fun k i hm => Nat.lt_of_lt_of_le (hs.lt k i hm) h4⟩, ⟨h1, h2, h3, h4, ⟨Nat.le_refl _, Nat.le_refl _⟩, fun k hk _ => h5 k hk, fun k i v g1 g2 => ⟨hcell k i v g1, g2⟩, fun b l _ h => h, fun b l k g1 g2 => .inl ⟨b, l, g1, g2⟩⟩⟩
  refine ObjR.mono (w := w) (w' := w') (fun k i v g1 g2 => ⟨hcell k i v g1, g2⟩) (Nat.le_refl _) (fun _ _ _ h => h) (fun l0 k hl hk => ?_) (hs.obj b o hb)
  exact h5 k (hs.blk_lt hl hk)

theorem pure_ok {f : FuncId} {args : List AV} {H : Heap} {Q0 : AOut → Prop} (h : FOK P f (frzAs H args).1 [] fun out Hs => Hs = [] ∧ Q0 out) :
    FOK P f args H fun out H' => H' = (frzAs H args).2 ∧ Q0 out := by
  obtain ⟨he, h⟩ := pure_run h
  refine ⟨he, fun Mx G w cargs hs ht => (h Mx G w cargs hs ht).mono fun e w' ⟨g1, g2, g3, g4, g5, out, g6, g7⟩ => ?_⟩
  obtain ⟨k1, k2, k3, k4, k5⟩ := frzAs_sound args H cargs.toList hs (by simpa using ht.1) (fun i v x e1 e2 => ht.2 i v x (by simpa using e1) e2)
  obtain ⟨m1, m2⟩ := k1.grown g1 g2 g3 g4 g5
  refine ⟨out, _, G, k2.trans (by omega) m2, m1, ?_, rfl, g7⟩
  cases g6 with
  | ret v x hr => exact .ret v x hr.lift
  | pan v x hr => exact .pan v x hr.lift

mutual
/-- Trees without memory. -/
def flat : AV → Bool
  | .any | .bool _ | .int .. | .str _ | .nilptr | .nilmap | .nilfunc | .nilIface | .zslice => true
  | .iface _ v => flat v
  | .agg cs => flats cs
  | .tuple vs => flats vs
  | _ => false
def flats : List AV → Bool
  | [] => true
  | v :: r => flat v && flats r
end
theorem flats_get : ∀ {l : List AV} {i : Nat} {x : AV}, flats l = true → l[i]? = some x → flat x = true
  | [], i, x, _, h => by simp at h
  | v :: r, 0, x, h, hx => by
    simp only [flats, Bool.and_eq_true] at h
    simp only [List.getElem?_cons_zero, Option.some.injEq] at hx
    subst hx
    exact h.1
  | v :: r, i + 1, x, h, hx => by
    simp only [flats, Bool.and_eq_true] at h
    exact flats_get h.2 (by simpa using hx)

theorem RV.flat {w w' : World} {M M' : Mut} {n : Nat} {G : Gh} {v : Value} {x : AV} (h : RV w M n G v x) : Abs.flat x = true → ∀ {n' : Nat} {G' : Gh}, RV w' M' n' G' v x := by
  induction h with
  | any => intros; exact .any ..
  | bool => intros; exact .bool ..
  | int => intros; exact .int ..
  | str => intros; exact .str ..
  | nilptr => intros; exact .nilptr ..
  | nilmap => intros; exact .nilmap ..
  | nilfunc => intros; exact .nilfunc ..
  | nilIface => intros; exact .nilIface ..
  | zslice => intros; exact .zslice ..
  | iface n G t v x h ih => intro hf n' G'; exact .iface _ _ _ _ _ (ih hf)
  | agg n G cs asl hl h ih => intro hf n' G'; exact .agg _ _ _ _ hl (fun i v x e1 e2 => ih i v x e1 e2 (flats_get hf e2))
  | tuple n G cs asl hl h ih => intro hf n' G'; exact .tuple _ _ _ _ hl (fun i v x e1 e2 => ih i v x e1 e2 (flats_get hf e2))
  | _ => intro hf; simp [Abs.flat] at hf

def flatO : AOut → Bool
  | .ret v => flat v
  | .pan v => flat v

/-- A call whose answer holds no memory leaves all objects as they were. -/
theorem flat_ok {f : FuncId} {args : List AV} {H : Heap} {Q0 : AOut → Prop} (h : FOK P f (frzAs H args).1 [] fun out Hs => Hs = [] ∧ Q0 out) (hf : ∀ out, Q0 out → flatO out = true) :
    FOK P f args H fun out H' => H' = H ∧ Q0 out := by
  obtain ⟨he, h⟩ := pure_run h
  refine ⟨he, fun Mx G w cargs hs ht => (h Mx G w cargs hs ht).mono fun e w' ⟨g1, g2, g3, g4, g5, out, g6, g7⟩ => ?_⟩
  obtain ⟨m1, m2⟩ := hs.grown g1 g2 g3 g4 g5
  refine ⟨out, _, G, m2, m1, ?_, rfl, g7⟩
  have := hf out g7
  cases g6 with
  | ret v x hr => exact .ret v x (hr.flat this)
  | pan v x hr => exact .pan v x (hr.flat this)

/-! ### Tables -/
abbrev Spec := List AV → Heap → (AOut → Heap → Prop) → Prop

structure SGood (P : Program) (f : FuncId) (s : Spec) : Prop where
  ok : ∀ args H Q, s args H Q → FOK P f args H Q
  ang : ∀ args H (K : AOut → Heap → Prop), s args H K → ∃ out H', s args H (fun x h => x = out ∧ h = H') ∧ K out H'
  mono : ∀ args H (K K' : AOut → Heap → Prop), (∀ o h, K o h → K' o h) → s args H K → s args H K'

structure TGood (P : Program) (T : Tab) : Prop where
  ok : TOK P T
  ang : TAng T
  mono : TMono T

def noTab : Tab := fun _ _ _ _ => False
theorem noTab_good : TGood P noTab := ⟨fun _ _ _ _ h => h.elim, fun _ _ _ _ h => h.elim, fun _ _ _ _ _ _ h => h.elim⟩

def ext (T : Tab) (f : FuncId) (s : Spec) : Tab := fun g args H Q => cond (Nat.beq g f) (s args H Q) (T g args H Q)

theorem ext_good {T : Tab} (hT : TGood P T) {f : FuncId} {s : Spec} (hs : SGood P f s) : TGood P (ext T f s) := by
  refine ⟨fun g args H Q h => ?_, fun g args H K h => ?_, fun g args H K K' hk h => ?_⟩ <;> unfold ext at * <;> cases hb : Nat.beq g f <;> rw [hb] at h
  · exact hT.ok g args H Q h
  · have := Nat.eq_of_beq_eq_true hb; subst this; exact hs.ok args H Q h
  · exact hT.ang g args H K h
  · exact hs.ang args H K h
  · exact hT.mono g args H K K' hk h
  · exact hs.mono args H K K' hk h

/-- Contracts in plain values. -/
abbrev GSpec := List AV → (AOut → Prop) → Prop
structure Det (φ : (AOut → Prop) → Prop) : Prop where
  det : ∀ K, φ K → ∃ o, φ (· = o) ∧ K o
  mono : ∀ K K', (∀ o, K o → K' o) → φ K → φ K'
theorem Det.no : Det fun _ => False := ⟨fun _ h => h.elim, fun _ _ _ h => h.elim⟩
theorem Det.at (o : AOut) : Det fun K => K o := ⟨fun _ h => ⟨o, rfl, h⟩, fun _ _ hk h => hk _ h⟩
theorem Det.and {p : Prop} {φ : (AOut → Prop) → Prop} (h : Det φ) : Det fun K => p ∧ φ K := ⟨fun K hk => let ⟨o, h1, h2⟩ := h.det K hk.2; ⟨o, ⟨hk.1, h1⟩, h2⟩, fun K K' hk hh => ⟨hh.1, h.mono K K' hk hh.2⟩⟩
theorem Det.ex {α : Type} {φ : α → (AOut → Prop) → Prop} (h : ∀ a, Det (φ a)) : Det fun K => ∃ a, φ a K := ⟨fun K ⟨a, hk⟩ => let ⟨o, h1, h2⟩ := (h a).det K hk; ⟨o, ⟨a, h1⟩, h2⟩, fun K K' hk ⟨a, hh⟩ => ⟨a, (h a).mono K K' hk hh⟩⟩
theorem Det.cond {b : Bool} {φ ψ : (AOut → Prop) → Prop} (h1 : Det φ) (h2 : Det ψ) : Det fun K => cond b (φ K) (ψ K) := by cases b; exact h2; exact h1

def pureT (g : GSpec) : Spec := fun args H Q => g (frzAs H args).1 (fun out => Q out (frzAs H args).2)
def flatT (g : GSpec) : Spec := fun args H Q => g (frzAs H args).1 (fun out => Q out H)

theorem pureT_good {f : FuncId} {g : GSpec} (hd : ∀ args, Det (g args)) (h : ∀ args Q, g args Q → FOK P f args [] fun out Hs => Hs = [] ∧ Q out) : SGood P f (pureT g) where
  ok := fun args H Q hg => (pure_ok (Q0 := fun out => Q out (frzAs H args).2) (h _ _ hg)).imp fun o h ⟨h1, h2⟩ => by subst h1; exact h2
  ang := fun args H K hg => by
    obtain ⟨o, h1, h2⟩ := (hd _).det _ hg
    exact ⟨o, (frzAs H args).2, (hd _).mono _ _ (fun x hx => ⟨hx, rfl⟩) h1, h2⟩
  mono := fun args H K K' hk hg => (hd _).mono _ _ (fun o ho => hk _ _ ho) hg

theorem flatT_good {f : FuncId} {g : GSpec} (hd : ∀ args, Det (g args)) (hf : ∀ args o, g args (· = o) → flatO o = true) (h : ∀ args Q, g args Q → FOK P f args [] fun out Hs => Hs = [] ∧ Q out) : SGood P f (flatT g) where
  ok := fun args H Q hg => by
    obtain ⟨o, h1, h2⟩ := (hd _).det _ hg
    refine (flat_ok (Q0 := fun out => out = o) (h _ _ h1) (fun out ho => by subst ho; exact hf _ _ h1)).imp fun o' h ⟨e1, e2⟩ => by subst e1; subst e2; exact h2
  ang := fun args H K hg => by
    obtain ⟨o, h1, h2⟩ := (hd _).det _ hg
    exact ⟨o, H, (hd _).mono _ _ (fun x hx => ⟨hx, rfl⟩) h1, h2⟩
  mono := fun args H K K' hk hg => (hd _).mono _ _ (fun o ho => hk _ _ ho) hg

/-! ### Functions without objects of the caller's -/
def frzO (H : Heap) : AOut → AOut
  | .ret (.tuple vs) => .ret (.tuple (frzAs H vs).1)
  | .ret v => .ret (frzA H v).1
  | .pan v => .pan (cond (flat v) v .any)

theorem froz_ok {f : FuncId} {args : List AV} {Q : AOut → Prop} (h : FOK P f args [] fun out Hs => Q (frzO Hs out)) : FOK P f args [] fun out Hs => Hs = [] ∧ Q out := by
  refine ⟨h.1, fun Mx G w cargs hs ht => (h.2 Mx G w cargs hs ht).mono fun e w' ⟨out, H', G', h1, h2, h3, h4⟩ => ?_⟩
  have hG : ∀ b l, G b = some l → False := fun b l hb => absurd (hs.dom b l hb) (Nat.not_lt_zero _)
  have hst : Step ([] : Heap).length Mx G [] w G0 [] w' := ⟨h1.os, h1.tape, h1.output, h1.size, ⟨Nat.le_refl _, Nat.le_refl _⟩, h1.far, fun k i v g1 g2 => ⟨(h1.still k i v g1 g2).1, fun hm => by
      rcases hm with hm | ⟨b, l, o, hb, _⟩
      · exact g2 (.inl hm)
      · cases hb⟩, fun b l hb => absurd hb (Nat.not_lt_zero _), fun b l k hb => by cases hb⟩
  have hsim : Sim Mx G0 [] w' := ⟨fun b l hb => (by cases hb), fun b o hb => (by simp at hb), fun b b' l l' k hb => (by cases hb), fun b l k i hb => (by cases hb), fun k i hm => Nat.lt_of_lt_of_le (hs.lt k i hm) h1.size⟩
  have drop : ∀ {Hf : Heap} {v x}, RV w' (MM Mx G' Hf) 0 G0 v x → RV w' (MM Mx G0 []) ([] : Heap).length G0 v x := fun hv => hv.mono (fun k i v g1 g2 => ⟨g1, fun hm => by
      rcases hm with hm | ⟨b, l, o, hb, _⟩
      · exact g2 (.inl hm)
      · cases hb⟩) (Nat.le_refl _) (fun _ _ _ h => h)
  refine ⟨_, [], G0, hst, hsim, ?_, rfl, h4⟩
  cases h3 with
  | pan v x hr =>
    have hp : frzO H' (.pan x) = .pan (cond (flat x) x .any) := rfl
    rw [hp]
    cases hf : flat x with
    | true => exact .pan v x (hr.flat hf)
    | false => exact .pan v _ (.any ..)
  | ret v x hr =>
    have one : ER w' (MM Mx G0 []) ([] : Heap).length G0 (.returned v) (.ret (frzA H' x).1) := .ret _ _ (drop (frzA_sound h2 hr).2.2.2)
    unfold frzO
    split
    · rename_i vs he
      cases he
      obtain ⟨cs, rfl, hl, hc⟩ := hr.tuple_inv
      obtain ⟨k1, k2, k3, k4, k5⟩ := frzAs_sound vs H' cs.toList h2 (by simpa using hl) (fun i v x e1 e2 => hc i v x (by simpa using e1) e2)
      exact .ret _ _ (.tuple _ _ _ _ (by rw [k4]; exact hl) (fun i v y e1 e2 => drop (k5 i v y (by simpa using e1) e2)))
    · rename_i he
      cases he
      exact one
    · rename_i he
      cases he

theorem body_pure {T : Tab} (hT : TGood P T) (hm : P.follows .mixedOrders = true) {f : FuncId} {fn : Func} (hf : P.funcs[f]? = some fn) (hent : Enters P f) (N : Nat) {args : List AV} {Q : AOut → Prop}
    (h : abody P T 0 N fn args [] fun out Hs => Q (frzO Hs out)) : FOK P f args [] fun out Hs => Hs = [] ∧ Q out :=
  froz_ok (abody_sound hT.ok hT.ang hT.mono hm hf hent (N := N) (H := []) h)

theorem entersOf {f : FuncId} {fn : Func} {c : Code} (hf : P.funcs[f]? = some fn) (hname : (fn.name == "runtime.NumGoroutine") = false) (hb : fn.body = some c) : Enters P f := by
  intro args w
  have h1 : fn.name ≠ "runtime.NumGoroutine" := by simpa using hname
  simp [callFunc, hf, h1, hb, mark]

end Go.Abs

/-
An abstract machine over values as trees: callees that hand back rows of their own.
-/
namespace Go.Abs
open Go
variable {P : Program}

theorem frz_call {f : FuncId} {args : List AV} {H : Heap} {Q : AOut → Heap → Prop} (h : FOK P f (frzAs H args).1 (frzAs H args).2 Q) : FOK P f args H Q := by
  refine ⟨h.1, fun Mx G w cargs hs ht => ?_⟩
  obtain ⟨k1, k2, k3, k4, k5⟩ := frzAs_sound args H cargs.toList hs (by simpa using ht.1) (fun i v x e1 e2 => ht.2 i v x (by simpa using e1) e2)
  refine (h.2 Mx G w cargs k1 ⟨by rw [k4]; exact ht.1, fun i v x e1 e2 => (k5 i v x (by simpa using e1) e2).lift⟩).mono fun e w' ⟨out, H', G', h1, h2, h3, h4⟩ => ⟨out, H', G', ?_, h2, h3, h4⟩
  exact k2.trans (by omega) h1

theorem ren_frz (ρ : Nat → Option Nat) (H : Heap) (x : AV) : ren ρ (frz H x).1 = (frz H x).1 := by
  cases x <;> first | rfl | (simp only [frz]; split <;> rfl)
theorem renL_frzs (ρ : Nat → Option Nat) : ∀ (xs : List AV) (H : Heap), renL ρ (frzs H xs).1 = (frzs H xs).1
  | [], _ => rfl
  | x :: r, H => by simp only [frzs, renL, ren_frz, renL_frzs ρ r]
theorem ren_frzA (ρ : Nat → Option Nat) (H : Heap) (x : AV) : ren ρ (frzA H x).1 = (frzA H x).1 := by
  cases x with
  | agg cs => simp only [frzA, ren, renL_frzs]
  | _ => exact ren_frz ρ H _
theorem renL_frzAs (ρ : Nat → Option Nat) : ∀ (xs : List AV) (H : Heap), renL ρ (frzAs H xs).1 = (frzAs H xs).1
  | [], _ => rfl
  | x :: r, H => by simp only [frzAs, renL, ren_frzA, renL_frzAs ρ r]

theorem mergeH_nil (H Hs : Heap) : mergeH H [] Hs = H ++ Hs.map (renH (backN H.length [] Hs.length)) := by
  simp only [mergeH, List.length_nil, List.drop_zero]
  congr 1
  rw [List.map_congr_left (g := fun x => x.1) (fun x _ => by simp)]
  simp

/-- Contracts of callees that make objects of their own. -/
abbrev FSpec := List AV → (AOut → Heap → Prop) → Prop
def freshT (g : FSpec) : Spec := fun args H Q => g (frzAs H args).1 (fun out Hs => Q (outR (backN H.length [] Hs.length) out) ((frzAs H args).2 ++ Hs.map (renH (backN H.length [] Hs.length))))

structure DetF (φ : (AOut → Heap → Prop) → Prop) : Prop where
  det : ∀ K, φ K → ∃ o h, φ (fun x y => x = o ∧ y = h) ∧ K o h
  mono : ∀ K K', (∀ o h, K o h → K' o h) → φ K → φ K'
theorem DetF.no : DetF fun _ => False := ⟨fun _ h => h.elim, fun _ _ _ h => h.elim⟩
theorem DetF.at (o : AOut) (h : Heap) : DetF fun K => K o h := ⟨fun _ hh => ⟨o, h, ⟨rfl, rfl⟩, hh⟩, fun _ _ hk hh => hk _ _ hh⟩
theorem DetF.and {p : Prop} {φ : (AOut → Heap → Prop) → Prop} (h : DetF φ) : DetF fun K => p ∧ φ K := ⟨fun K hk => let ⟨o, y, h1, h2⟩ := h.det K hk.2; ⟨o, y, ⟨hk.1, h1⟩, h2⟩, fun K K' hk hh => ⟨hh.1, h.mono K K' hk hh.2⟩⟩
theorem DetF.ex {α : Type} {φ : α → (AOut → Heap → Prop) → Prop} (h : ∀ a, DetF (φ a)) : DetF fun K => ∃ a, φ a K := ⟨fun K ⟨a, hk⟩ => let ⟨o, y, h1, h2⟩ := (h a).det K hk; ⟨o, y, ⟨a, h1⟩, h2⟩, fun K K' hk ⟨a, hh⟩ => ⟨a, (h a).mono K K' hk hh⟩⟩
theorem DetF.cond {b : Bool} {φ ψ : (AOut → Heap → Prop) → Prop} (h1 : DetF φ) (h2 : DetF ψ) : DetF fun K => cond b (φ K) (ψ K) := by cases b; exact h2; exact h1

theorem frzAs_length : ∀ (xs : List AV) (H : Heap), (frzAs H xs).2.length = H.length := by
  have one : ∀ (H : Heap) x, (frz H x).2.length = H.length := fun H x => by
    cases x <;> first | rfl | (simp only [frz]; split <;> simp)
  have many : ∀ (xs : List AV) (H : Heap), (frzs H xs).2.length = H.length := fun xs => by
    induction xs with
    | nil => intro H; rfl
    | cons x r ih => intro H; simp only [frzs]; rw [ih, one]
  intro xs
  induction xs with
  | nil => intro H; rfl
  | cons x r ih =>
    intro H
    simp only [frzAs]
    rw [ih]
    cases x with
    | agg cs => simp only [frzA]; exact many cs H
    | _ => exact one H _

theorem freshT_good {f : FuncId} {g : FSpec} (hd : ∀ args, DetF (g args)) (h : ∀ args Q, g args Q → FOK P f args [] Q) : SGood P f (freshT g) where
  ok := fun args H Q hg => by
    refine frz_call (sub_call (ids := []) List.nodup_nil (fun b hb => absurd hb List.not_mem_nil) ?_)
    rw [renL_frzAs]
    refine (h _ _ hg).imp fun o Hs hq => ?_
    rw [mergeH_nil, frzAs_length]
    exact hq
  ang := fun args H K hg => by
    obtain ⟨o, y, h1, h2⟩ := (hd _).det _ hg
    exact ⟨_, _, (hd _).mono _ _ (fun x z hx => by obtain ⟨rfl, rfl⟩ := hx; exact ⟨rfl, rfl⟩) h1, h2⟩
  mono := fun args H K K' hk hg => (hd _).mono _ _ (fun o y ho => hk _ _ ho) hg

theorem body_fresh {T : Tab} (hT : TGood P T) (hm : P.follows .mixedOrders = true) {f : FuncId} {fn : Func} (hf : P.funcs[f]? = some fn) (hent : Enters P f) (N : Nat) {args : List AV} {Q : AOut → Heap → Prop}
    (h : abody P T 0 N fn args [] Q) : FOK P f args [] Q :=
  abody_sound hT.ok hT.ang hT.mono hm hf hent (N := N) (H := []) h

end Go.Abs

/-
An abstract machine over values as trees: methods of a writer (a buffer and a mark).
-/
namespace Go.Abs
open Go
variable {P : Program}

def wvar (r : Nat) (bad : Bool) : HO := .var [.row r, .int .i64 0, .int .i8 0, .bool bad]
def wrow (l : List (List AV)) : HO := .row true 5 1 l

/-- The arguments behind the first are frozen; what comes behind them stays. -/
theorem frz_rest {f : FuncId} {x : AV} {args ys : List AV} {H : Heap} {Q : AOut → Heap → Prop} (h : FOK P f (x :: ((frzAs H args).1 ++ ys)) (frzAs H args).2 Q) : FOK P f (x :: (args ++ ys)) H Q := by
  refine ⟨h.1, fun Mx G w cargs hs ht => ?_⟩
  obtain ⟨hsz, hrv⟩ := ht
  obtain ⟨cl⟩ := cargs
  cases cl with
  | nil => simp at hsz
  | cons c0 cr =>
    have h0 := hrv 0 c0 x rfl rfl
    have hsz' : cr.length = args.length + ys.length := by simpa using hsz
    have htl : (cr.take args.length).length = args.length := by rw [List.length_take]; omega
    obtain ⟨k1, k2, k3, k4, k5⟩ := frzAs_sound args H (cr.take args.length) hs htl (fun i v y e1 e2 => by
      have hi := (List.getElem?_eq_some_iff.1 e2).1
      rw [List.getElem?_take_of_lt hi] at e1
      exact hrv (i + 1) v y (by simpa using e1) (by simp only [List.getElem?_cons_succ]; rw [List.getElem?_append_left hi]; exact e2))
    refine (h.2 Mx G w ⟨c0 :: cr⟩ k1 ⟨by simp only [List.size_toArray, List.length_cons, List.length_append, k4] at *; omega, fun i v y e1 e2 => ?_⟩).mono fun e w' ⟨out, H', G', h1, h2, h3, h4⟩ => ⟨out, H', G', k2.trans (by omega) h1, h2, h3, h4⟩
    cases i with
    | zero =>
      simp only [List.getElem?_toArray, List.getElem?_cons_zero, Option.some.injEq] at e1 e2
      subst e1; subst e2
      exact k2.rv h0
    | succ i =>
      simp only [List.getElem?_toArray, List.getElem?_cons_succ] at e1 e2
      by_cases hi : i < args.length
      · rw [List.getElem?_append_left (by omega)] at e2
        exact (k5 i v y (by rw [List.getElem?_take_of_lt hi]; exact e1) e2).lift
      · rw [List.getElem?_append_right (by omega), k4] at e2
        refine k2.rv (hrv (i + 1) v y (by simpa using e1) ?_)
        simp only [List.getElem?_cons_succ]
        rw [List.getElem?_append_right (by omega)]
        exact e2

/-- A variable's cells read another way. -/
theorem Sim.revar {Mx : Mut} {G : Gh} {H : Heap} {w : World} (hs : Sim Mx G H w) {b : Nat} {cs cs' : List AV} (hH : H[b]? = some (.var cs)) (hl : cs'.length = cs.length)
    (hc : ∀ (i : Nat) v x y, cs[i]? = some x → cs'[i]? = some y → v.oneCell' = true → RV w (MM Mx G H) H.length G v x → RV w (MM Mx G H) H.length G v y) :
    Sim Mx G (H.set b (.var cs')) w ∧ Step H.length Mx G H w G (H.set b (.var cs')) w := by
  cases hG : G b with
  | none =>
    have := hs.obj b _ hH
    rw [hG] at this
    obtain ⟨_, _, _, h, _⟩ := this
    cases h
  | some l =>
    have ho := hs.obj b _ hH
    rw [hG] at ho
    obtain ⟨k, cv, t, hl0, hk, hsz, hcell⟩ := ho
    cases hl0
    refine hs.put hG hH rfl rfl rfl rfl rfl (fun _ _ => rfl) (fun _ _ => trivial) (fun i v _ hm => absurd trivial hm) (fun hst => ⟨k, cv, t, rfl, hk, by rw [hl]; exact hsz, fun i v y e1 e2 => ?_⟩)
    have hi : i < cs.length := by have := (List.getElem?_eq_some_iff.1 e2).1; omega
    obtain ⟨h1, h2⟩ := hcell i v _ e1 (List.getElem?_eq_getElem hi)
    exact ⟨h1, (hc i v _ y (List.getElem?_eq_getElem hi) e2 h1 h2).mono hst (Nat.le_refl _) (fun _ _ _ h => h)⟩

/-- A nil buffer is a row without bytes. -/
theorem nil_row {f : FuncId} {args : List AV} {bad : Bool} {Q : AOut → Heap → Prop} (h : FOK P f args [wvar 1 bad, wrow []] Q) : FOK P f args [.var [.zslice, .int .i64 0, .int .i8 0, .bool bad]] Q := by
  refine ⟨h.1, fun Mx G w cargs hs ht => ?_⟩
  have ho := hs.obj 0 _ rfl
  obtain ⟨k, cv, t, hG, hk, hsz, hcell⟩ := ho
  have hcv : 0 < cv.size := by rw [hsz]; simp
  obtain ⟨A, hA⟩ := (hcell 0 cv[0] .zslice (Array.getElem?_eq_getElem hcv) rfl).2.zslice_inv
  obtain ⟨G', k1, k2, k3⟩ := row_push0 hs (wr := true) (e := 5) (sz := 1) (by decide) A
  have hst := k1.obj 0 _ rfl
  have hG' : G' 0 = some (.blk k) := by
    cases hg : G' 0 with
    | none => rw [hg] at hst; obtain ⟨_, _, _, h, _⟩ := hst; cases h
    | some l => exact hG ▸ (k2.gh 0 l (by simp) hg).symm
  have hcell' := hst
  rw [hG'] at hcell'
  obtain ⟨k', cv', t', hl', hk', hsz', hcell'⟩ := hcell'
  cases hl'
  rw [hk] at hk'
  cases hk'
  obtain ⟨m1, m2⟩ : Sim Mx G' [wvar 1 bad, wrow []] w ∧ Step (List.length ([HO.var [.zslice, .int .i64 0, .int .i8 0, .bool bad]] ++ [.row true 5 1 []])) Mx G' ([.var [.zslice, .int .i64 0, .int .i8 0, .bool bad]] ++ [.row true 5 1 []]) w G' [wvar 1 bad, wrow []] w := by
    refine k1.put (b := 0) (o' := wvar 1 bad) hG' rfl rfl rfl rfl rfl rfl (fun _ _ => rfl) (fun _ _ => trivial) (fun i v _ hm => absurd trivial hm) (fun hst => ⟨k, cv, t, rfl, hk, hsz, fun i v y e1 e2 => ?_⟩)
    match i, e2 with
    | 0, e2 =>
      simp only [List.getElem?_cons_zero, Option.some.injEq] at e2
      subst e2
      rw [Array.getElem?_eq_getElem hcv, Option.some.injEq, hA] at e1
      subst e1
      exact ⟨rfl, k3.mono hst (Nat.le_refl _) (fun _ _ _ h => h)⟩
    | i + 1, e2 => exact ⟨(hcell' (i + 1) v y e1 (by simpa using e2)).1, (hcell' (i + 1) v y e1 (by simpa using e2)).2.mono hst (Nat.le_refl _) (fun _ _ _ h => h)⟩
  have hst : Step 1 Mx G [.var [.zslice, .int .i64 0, .int .i8 0, .bool bad]] w G' [wvar 1 bad, wrow []] w := k2.trans (by simp) m2
  refine (h.2 Mx G' w cargs m1 ⟨ht.1, fun i v x e1 e2 => (Step.rv m2 (Step.rv k2 (ht.2 i v x e1 e2)))⟩).mono fun e w' ⟨out, H', G2, h1, h2, h3, h4⟩ => ⟨out, H', G2, hst.trans (by simp) h1, h2, h3, h4⟩

/-- Contracts of a writer's methods: the arguments, the bytes, the mark; the result, the bytes, the mark. -/
abbrev WSpec := List AV → List (List AV) → Bool → (AV → List (List AV) → Bool → Prop) → Prop
structure WDet (φ : (AV → List (List AV) → Bool → Prop) → Prop) : Prop where
  det : ∀ K, φ K → ∃ v l b, φ (fun x y z => x = v ∧ y = l ∧ z = b) ∧ K v l b
  mono : ∀ K K', (∀ v l b, K v l b → K' v l b) → φ K → φ K'
theorem WDet.no : WDet fun _ => False := ⟨fun _ h => h.elim, fun _ _ _ h => h.elim⟩
theorem WDet.at (v : AV) (l : List (List AV)) (b : Bool) : WDet fun K => K v l b := ⟨fun _ h => ⟨v, l, b, ⟨rfl, rfl, rfl⟩, h⟩, fun _ _ hk h => hk _ _ _ h⟩
theorem WDet.and {p : Prop} {φ : (AV → List (List AV) → Bool → Prop) → Prop} (h : WDet φ) : WDet fun K => p ∧ φ K :=
  ⟨fun K hk => let ⟨v, l, b, h1, h2⟩ := h.det K hk.2; ⟨v, l, b, ⟨hk.1, h1⟩, h2⟩, fun K K' hk hh => ⟨hh.1, h.mono K K' hk hh.2⟩⟩
theorem WDet.ex {α : Type} {φ : α → (AV → List (List AV) → Bool → Prop) → Prop} (h : ∀ a, WDet (φ a)) : WDet fun K => ∃ a, φ a K :=
  ⟨fun K ⟨a, hk⟩ => let ⟨v, l, b, h1, h2⟩ := (h a).det K hk; ⟨v, l, b, ⟨a, h1⟩, h2⟩, fun K K' hk ⟨a, hh⟩ => ⟨a, (h a).mono K K' hk hh⟩⟩

def writerT (g : WSpec) : Spec := fun args H Q => match args with
  | .ptr b o :: rest => match o, H[b]? with
    | 0, some (.var [c0, .int .i64 z, .int .i8 y, .bool bad]) => cond (decide (z = 0) && decide (y = 0)) (match c0 with
      | .row r => match (frzAs H rest).2[b]?, (frzAs H rest).2[r]? with
        | some (.var _), some (.row true e sz es) => cond (Nat.beq e 5 && Nat.beq sz 1) (g (frzAs H rest).1 es bad fun v l' bad' => Q (.ret v) ((((frzAs H rest).2.set b (wvar H.length bad')).set r .dead) ++ [wrow l'])) False
        | _, _ => False
      | .zslice => g (frzAs H rest).1 [] bad fun v l' bad' => Q (.ret v) (((frzAs H rest).2.set b (wvar (H.length + 1) bad')) ++ [.dead, wrow l'])
      | _ => False) False
    | _, _ => False
  | _ => False

theorem cond_zy {z y : Int} {p : Prop} (h : cond (decide (z = 0) && decide (y = 0)) p False) : z = 0 ∧ y = 0 ∧ p := by
  by_cases h1 : z = 0 <;> by_cases h2 : y = 0 <;> simp_all
theorem cond_es {e s : Nat} {p : Prop} (h : cond (Nat.beq e 5 && Nat.beq s 1) p False) : e = 5 ∧ s = 1 ∧ p := by
  cases h1 : Nat.beq e 5 <;> cases h2 : Nat.beq s 1 <;> rw [h1, h2] at h <;> try exact h.elim
  exact ⟨Nat.eq_of_beq_eq_true h1, Nat.eq_of_beq_eq_true h2, h⟩
theorem frz_var {H : Heap} {b : Nat} {cs : List AV} (h : H[b]? = some (.var cs)) : ∀ x, (frz H x).2[b]? = some (.var cs) := by
  intro x
  cases x with
  | row c =>
    simp only [frz]
    split
    · rename_i hr
      have : c ≠ b := fun e => by subst e; rw [h] at hr; cases hr
      rw [List.getElem?_set_ne this]
      exact h
    · exact h
  | srow c o n =>
    simp only [frz]
    split
    · rename_i hr
      have : c ≠ b := fun e => by subst e; rw [h] at hr; cases hr
      rw [List.getElem?_set_ne this]
      exact h
    · exact h
  | _ => exact h
theorem frzs_var {b : Nat} {cs : List AV} : ∀ (xs : List AV) (H : Heap), H[b]? = some (.var cs) → (frzs H xs).2[b]? = some (.var cs)
  | [], _, h => h
  | x :: r, H, h => by simp only [frzs]; exact frzs_var r _ (frz_var h x)
theorem frzAs_var {b : Nat} {cs : List AV} : ∀ (xs : List AV) (H : Heap), H[b]? = some (.var cs) → (frzAs H xs).2[b]? = some (.var cs)
  | [], _, h => h
  | x :: r, H, h => by
    simp only [frzAs]
    refine frzAs_var r _ ?_
    cases x with
    | agg cs => exact frzs_var cs H h
    | _ => exact frz_var h _

mutual
theorem ren_flat (ρ : Nat → Option Nat) : ∀ v : AV, flat v = true → ren ρ v = v
  | .iface t x, h => by simp only [flat] at h; simp only [ren, ren_flat ρ x h]
  | .agg cs, h => by simp only [flat] at h; simp only [ren, renL_flat ρ cs h]
  | .tuple cs, h => by simp only [flat] at h; simp only [ren, renL_flat ρ cs h]
  | .any, _ | .bool _, _ | .int .., _ | .str _, _ | .nilptr, _ | .nilmap, _ | .nilfunc, _ | .nilIface, _ | .zslice, _ => by simp only [ren]
  | .ptr .., h | .rptr .., h | .eptr _, h | .slice _, h | .row _, h | .srow .., h | .vsl .., h | .map _, h | .func .., h => by simp [flat] at h
theorem renL_flat (ρ : Nat → Option Nat) : ∀ l : List AV, flats l = true → renL ρ l = l
  | [], _ => by simp only [renL]
  | v :: r, h => by
    simp only [flats, Bool.and_eq_true] at h
    simp only [renL, ren_flat ρ v h.1, renL_flat ρ r h.2]
end

def wOut (Q : AV → List (List AV) → Bool → Prop) : AOut → Heap → Prop := fun out Hs => ∃ v l' bad', out = .ret v ∧ flat v = true ∧ Hs = [wvar 2 bad', .dead, wrow l'] ∧ Q v l' bad'

theorem renL_app (ρ : Nat → Option Nat) : ∀ l r : List AV, renL ρ (l ++ r) = renL ρ l ++ renL ρ r
  | [], _ => rfl
  | x :: l, r => by simp only [List.cons_append, renL, renL_app ρ l r]

theorem writerT_ok {f : FuncId} {g : WSpec} {ys : Nat → List AV} (hys : ∀ ρ b, ρ b = some 0 → renL ρ (ys b) = ys 0)
    (h : ∀ args l bad Q, g args l bad Q → FOK P f (.ptr 0 0 :: (args ++ ys 0)) [wvar 1 bad, wrow l] (wOut Q)) {b o : Nat} {rest : List AV} {H : Heap} {Q : AOut → Heap → Prop} (hg : writerT g (.ptr b o :: rest) H Q) : FOK P f (.ptr b o :: (rest ++ ys b)) H Q := by
    unfold writerT at hg
    dsimp only at hg
    split at hg
    case h_2 => exact hg.elim
    rename_i c0 z y bad hH
    replace hg := cond_zy hg
    obtain ⟨rfl, rfl, hg⟩ := hg
    have hlen : (frzAs H rest).2.length = H.length := frzAs_length rest H
    have hv := frzAs_var rest H hH
    have hb : b < (frzAs H rest).2.length := (List.getElem?_eq_some_iff.1 hv).1
    refine frz_rest ?_
    split at hg
    · rename_i r
      split at hg
      case h_2 => exact hg.elim
      rename_i cs' e sz es hb' hr
      replace hg := cond_es hg
      obtain ⟨rfl, rfl, hg⟩ := hg
      have hne : b ≠ r := fun e => by subst e; rw [hv] at hr; cases hr
      have hrl : r < (frzAs H rest).2.length := (List.getElem?_eq_some_iff.1 hr).1
      have i0 : ([b, r] : List Nat).idxOf? b = some 0 := by simp [List.idxOf?, List.findIdx?_cons]
      have i1 : ([b, r] : List Nat).idxOf? r = some 1 := by simp [List.idxOf?, List.findIdx?_cons, hne]
      refine sub_call (ids := [b, r]) (by simp [hne]) (fun x hx => by simp at hx; rcases hx with rfl | rfl <;> assumption) ?_
      have e1 : renL (([b, r] : List Nat).idxOf? ·) (.ptr b 0 :: ((frzAs H rest).1 ++ ys b)) = .ptr 0 0 :: ((frzAs H rest).1 ++ ys 0) := by
        simp only [renL, renL_app, renL_frzAs, ren, i0, hys (([b, r] : List Nat).idxOf? ·) b i0]
      have e2 : subH (frzAs H rest).2 [b, r] = [wvar 1 bad, wrow es] := by
        simp only [subH, List.map_cons, List.map_nil, List.getD_eq_getElem?_getD, hv, hr, Option.getD_some, renH, renL, ren, i1]
        rfl
      rw [e1, e2]
      refine (h _ _ _ _ hg).imp fun out Hs ⟨v, l', bad', h1, h2, h3, h4⟩ => ?_
      subst h1; subst h3
      have e3 : outR (backN (frzAs H rest).2.length [b, r] 3) (.ret v) = .ret v := by simp only [outR, ren_flat _ v h2]
      have e4 : mergeH (frzAs H rest).2 [b, r] [wvar 2 bad', .dead, wrow l'] = (((frzAs H rest).2.set b (wvar H.length bad')).set r .dead) ++ [wrow l'] := by
        have b2 : backN (frzAs H rest).2.length [b, r] 3 2 = some H.length := by simp [backN, hlen]
        unfold mergeH
        congr 1
        · refine List.ext_getElem? fun i => ?_
          rw [List.getElem?_map, List.getElem?_zipIdx]
          by_cases hir : i = r
          · subst hir
            rw [List.getElem?_set_self (by simpa using hrl), List.getElem?_eq_getElem hrl]
            simp [i1, renH]
          · rw [List.getElem?_set_ne (fun e => hir e.symm)]
            by_cases hib : i = b
            · subst hib
              rw [List.getElem?_set_self hb, List.getElem?_eq_getElem hb]
              simp only [Option.map_some, Nat.zero_add, i0, List.getD_cons_zero, Option.some.injEq]
              simp only [wvar, renH, renL, ren, List.length_cons, List.length_nil, b2]
            · rw [List.getElem?_set_ne (fun e => hib e.symm)]
              cases hi : (frzAs H rest).2[i]? with
              | none => rfl
              | some o =>
                have : ([b, r] : List Nat).idxOf? i = none := by rw [List.idxOf?_eq_none_iff]; simp [hib, hir]
                simp [this]
      simp only [List.length_cons, List.length_nil] at *
      rw [e3, e4]
      exact h4
    · refine sub_call (ids := [b]) (by simp) (fun x hx => by simp at hx; subst hx; assumption) ?_
      have i0 : ([b] : List Nat).idxOf? b = some 0 := by simp [List.idxOf?, List.findIdx?_cons]
      have e1 : renL (([b] : List Nat).idxOf? ·) (.ptr b 0 :: ((frzAs H rest).1 ++ ys b)) = .ptr 0 0 :: ((frzAs H rest).1 ++ ys 0) := by
        simp only [renL, renL_app, renL_frzAs, ren, i0, hys (([b] : List Nat).idxOf? ·) b i0]
      have e2 : subH (frzAs H rest).2 [b] = [.var [.zslice, .int .i64 0, .int .i8 0, .bool bad]] := by
        simp only [subH, List.map_cons, List.map_nil, List.getD_eq_getElem?_getD, hv, Option.getD_some, renH, renL, ren]
      rw [e1, e2]
      refine nil_row ((h _ _ _ _ hg).imp fun out Hs ⟨v, l', bad', h1, h2, h3, h4⟩ => ?_)
      subst h1; subst h3
      have e3 : outR (backN (frzAs H rest).2.length [b] 3) (.ret v) = .ret v := by simp only [outR, ren_flat _ v h2]
      have e4 : mergeH (frzAs H rest).2 [b] [wvar 2 bad', .dead, wrow l'] = ((frzAs H rest).2.set b (wvar (H.length + 1) bad')) ++ [.dead, wrow l'] := by
        have b2 : backN (frzAs H rest).2.length [b] 3 2 = some (H.length + 1) := by simp [backN, hlen]
        unfold mergeH
        congr 1
        · refine List.ext_getElem? fun i => ?_
          rw [List.getElem?_map, List.getElem?_zipIdx]
          by_cases hib : i = b
          · subst hib
            rw [List.getElem?_set_self hb, List.getElem?_eq_getElem hb]
            simp only [Option.map_some, Nat.zero_add, i0, List.getD_cons_zero, Option.some.injEq]
            simp only [wvar, renH, renL, ren, List.length_cons, List.length_nil, b2]
          · rw [List.getElem?_set_ne (fun e => hib e.symm)]
            cases hi : (frzAs H rest).2[i]? with
            | none => rfl
            | some o =>
              simp [show ¬ b = i from fun e => hib e.symm]
      simp only [List.length_cons, List.length_nil] at *
      rw [e3, e4]
      exact h4
    · exact hg.elim
theorem writerT_ang {g : WSpec} (hd : ∀ args l bad, WDet (g args l bad)) (args : List AV) (H : Heap) (K : AOut → Heap → Prop) (hg : writerT g args H K) : ∃ out H', writerT g args H (fun x h => x = out ∧ h = H') ∧ K out H' := by
    unfold writerT at hg
    split at hg
    case h_2 => exact hg.elim
    rename_i b o rest
    split at hg
    case h_2 => exact hg.elim
    rename_i c0 z y bad hH
    replace hg := cond_zy hg
    obtain ⟨rfl, rfl, hg⟩ := hg
    split at hg
    · rename_i r
      split at hg
      case h_2 => exact hg.elim
      rename_i cs' e sz es hb' hr
      replace hg := cond_es hg
      obtain ⟨rfl, rfl, hg⟩ := hg
      obtain ⟨v, l, b2, h1, h2⟩ := (hd _ _ _).det _ hg
      refine ⟨_, _, ?_, h2⟩
      unfold writerT
      simp only [hH, hb', hr]
      exact (hd _ _ _).mono _ _ (fun x y z hx => by obtain ⟨rfl, rfl, rfl⟩ := hx; exact ⟨rfl, rfl⟩) h1
    · obtain ⟨v, l, b2, h1, h2⟩ := (hd _ _ _).det _ hg
      refine ⟨_, _, ?_, h2⟩
      unfold writerT
      simp only [hH]
      exact (hd _ _ _).mono _ _ (fun x y z hx => by obtain ⟨rfl, rfl, rfl⟩ := hx; exact ⟨rfl, rfl⟩) h1
    · exact hg.elim
theorem writerT_mono {g : WSpec} (hd : ∀ args l bad, WDet (g args l bad)) (args : List AV) (H : Heap) (K K' : AOut → Heap → Prop) (hk : ∀ o h, K o h → K' o h) (hg : writerT g args H K) : writerT g args H K' := by
    unfold writerT at hg ⊢
    split at hg
    case h_2 => exact hg.elim
    rename_i b o rest
    split at hg
    case h_2 => exact hg.elim
    rename_i c0 z y bad hH
    replace hg := cond_zy hg
    obtain ⟨rfl, rfl, hg⟩ := hg
    simp only [decide_true, Bool.and_self, cond_true]
    split at hg
    · rename_i r
      split at hg
      case h_2 => exact hg.elim
      rename_i cs' e sz es hb' hr
      replace hg := cond_es hg
      obtain ⟨rfl, rfl, hg⟩ := hg
      show cond true _ False
      exact (hd _ _ _).mono _ _ (fun x y z hx => hk _ _ hx) hg
    · exact (hd _ _ _).mono _ _ (fun x y z hx => hk _ _ hx) hg
    · exact hg.elim

theorem writerT_good {f : FuncId} {g : WSpec} (hd : ∀ args l bad, WDet (g args l bad))
    (h : ∀ args l bad Q, g args l bad Q → FOK P f (.ptr 0 0 :: args) [wvar 1 bad, wrow l] (wOut Q)) : SGood P f (writerT g) where
  ok := fun args H Q hg => by
    match args, hg with
    | .ptr b o :: rest, hg =>
      have := writerT_ok (ys := fun _ => []) (fun _ _ _ => rfl) (fun args l bad Q hq => by rw [List.append_nil]; exact h args l bad Q hq) hg
      rw [List.append_nil] at this
      exact this
  ang := writerT_ang hd
  mono := writerT_mono hd

/-- Contracts of a writer's lists: each item is written by a method. -/
def listT (k : FuncId) (g : WSpec) : Spec := fun args H Q => match args with
  | [.ptr b o, x, .func (.func k') [.ptr b' o'] []] => cond (Nat.beq b' b && (Nat.beq o' 0 && Nat.beq k' k)) (writerT g [.ptr b o, x] H Q) False
  | _ => False
theorem cond3 {b b' o' k k' : Nat} {p : Prop} (h : cond (Nat.beq b' b && (Nat.beq o' 0 && Nat.beq k' k)) p False) : b' = b ∧ o' = 0 ∧ k' = k ∧ p := by
  cases h1 : Nat.beq b' b <;> cases h2 : Nat.beq o' 0 <;> cases h3 : Nat.beq k' k <;> rw [h1, h2, h3] at h <;> try exact h.elim
  exact ⟨Nat.eq_of_beq_eq_true h1, Nat.eq_of_beq_eq_true h2, Nat.eq_of_beq_eq_true h3, h⟩
theorem cond3i {b k : Nat} {p : Prop} (h : p) : cond (Nat.beq b b && (Nat.beq 0 0 && Nat.beq k k)) p False := by
  rw [Nat.beq_refl b, Nat.beq_refl k]
  exact h
theorem listT_good {f k : FuncId} {g : WSpec} (hd : ∀ args l bad, WDet (g args l bad))
    (h : ∀ x l bad Q, g [x] l bad Q → FOK P f [.ptr 0 0, x, .func (.func k) [.ptr 0 0] []] [wvar 1 bad, wrow l] (wOut Q)) (hg1 : ∀ args l bad Q, g args l bad Q → ∃ x, args = [x]) : SGood P f (listT k g) where
  ok := fun args H Q hg => by
    unfold listT at hg
    split at hg
    case h_2 => exact hg.elim
    replace hg := cond3 hg
    obtain ⟨rfl, rfl, rfl, hg⟩ := hg
    rename_i o0 x0 k0 b0
    exact writerT_ok (g := g) (rest := [x0]) (ys := fun b => [.func (.func k0) [.ptr b 0] []]) (fun ρ b hb => by simp only [renL, ren, hb]) (fun args l bad Q hq => by
      obtain ⟨x, rfl⟩ := hg1 _ _ _ _ hq
      exact h x l bad Q hq) hg
  ang := fun args H K hg => by
    unfold listT at hg
    split at hg
    case h_2 => exact hg.elim
    replace hg := cond3 hg
    obtain ⟨rfl, rfl, rfl, hg⟩ := hg
    obtain ⟨out, H', h1, h2⟩ := writerT_ang hd _ _ _ hg
    exact ⟨out, H', cond3i h1, h2⟩
  mono := fun args H K K' hk hg => by
    unfold listT at hg
    split at hg
    case h_2 => exact hg.elim
    replace hg := cond3 hg
    obtain ⟨rfl, rfl, rfl, hg⟩ := hg
    exact cond3i (writerT_mono hd _ _ _ _ hk hg)

end Go.Abs

/-
(*bytes.Buffer).grow, where there is no room: the new row lies in a new block.
-/
namespace Go.Abs
open Go Go.Proofs Go.Shelf Go.RowKit
variable {P : Program} {ρ : Ren}

/-- The buffer's row behind a growth lies in a new block. -/
def Moved (w : World) (b q : Nat) (T : TypeId) (R : Nat → Option Value) (e : TypeId) (lr : Int) (l n : Nat) (bs : List Value) (w' : World) : Prop :=
  w.grownBy w' (some b) ∧ ∃ g cap cur, LibA.Three w' b q T R (.slice (some ⟨g, 0, none⟩) (l + n) cap) (.int .i64 0) (.int .i8 lr) ∧ w.heap.size ≤ g ∧
    w'.heap[g]? = some (.cells cur e (0, 0)) ∧ l + n ≤ cap ∧ cap ≤ maxLen ∧ cur.size = cap ∧ cur.toList.take l = bs

theorem moved_mk {w w2 : World} {b q N l n m cap2 : Nat} {T e : TypeId} {R : Nat → Option Value} {lr : Int} {v0 v1 : Value} {cells : Array Value} {bs : List Value}
    (h3 : LibA.Three w2 b q T R v0 (.int .i64 0) (.int .i8 lr)) (hN : w2.heap[N]? = some (.cells cells e (0, 0))) (hNw : w.heap.size ≤ N) (hNb : N ≠ b)
    (hcs : cells.size = cap2) (htk : cells.toList.take l = bs) (hc : l + n ≤ cap2) (hm : cap2 ≤ maxLen) (hg : w.grownBy w2 (some b)) (hmm : m = l + n) :
    Moved w b q T R e lr l n bs (((w2.setCell ⟨b, q, none⟩ v1).setCell ⟨b, q + 1, none⟩ (.int .i64 0)).setCell ⟨b, q, none⟩ (.slice (some ⟨N, 0, none⟩) m cap2)) := by
  subst hmm
  refine ⟨Lib.grownBy_setB (Lib.grownBy_setB (Lib.grownBy_setB hg q _) (q + 1) _) q _, N, cap2, cells, ((h3.set0 v1).set1 (.int .i64 0)).set0 _, hNw, ?_, hc, hm, hcs, htk⟩
  rw [Below.heap_setCell _ _ _ _ hNb, Below.heap_setCell _ _ _ _ hNb, Below.heap_setCell _ _ _ _ hNb]
  exact hN

theorem moved_small {w W : World} {b q n cap : Nat} {T e : TypeId} {R : Nat → Option Value} {lr : Int} {v0 : Value} {M : Array Value}
    (h3 : LibA.Three W b q T R v0 (.int .i64 0) (.int .i8 lr)) (hs : w.heap.size = W.heap.size) (hMs : M.size = cap) (hn : n ≤ cap) (hm : cap ≤ maxLen) (hg : w.grownBy W (some b)) :
    Moved w b q T R e lr 0 n [] ((W.setCell ⟨b, q, none⟩ (.slice (some ⟨W.heap.size, 0, none⟩) n cap)).alloc (.cells M e)) := by
  have hbW := h3.lt
  have hsz : (W.setCell ⟨b, q, none⟩ (.slice (some ⟨W.heap.size, 0, none⟩) n cap)).heap.size = W.heap.size := by simp [World.setCell]
  refine ⟨Lib.grownBy_allocR (Lib.grownBy_setB hg q _) _, W.heap.size, cap, M, ?_, by omega, ?_, by omega, hm, hMs, by simp⟩
  · rw [Nat.zero_add]
    exact (h3.set0 _).of_heap (Below.heap_alloc _ _ b (by rw [hsz]; exact hbW))
  · have h := heap_alloc_new (W.setCell ⟨b, q, none⟩ (.slice (some ⟨W.heap.size, 0, none⟩) n cap)) (.cells M e)
    rw [hsz] at h
    exact h

set_option maxHeartbeats 6400000 in
set_option maxRecDepth 100000 in
theorem grow_nil_small (L : LaysM.n252 P ρ) (T : TypeId) (R : Nat → Option Value) (b q n : Nat) (lr : Int) (w : World)
    (hbk : LibA.Three w b q T R (.slice none 0 0) (.int .i64 0) (.int .i8 lr)) (hn : 1 ≤ n) (h64 : n ≤ 64) :
    Calls P (ρ.f 252) #[.pointer (some ⟨b, q, none⟩), .int .i64 n] w fun e w' => e = .returned (.int .i64 0) ∧ Moved w b q T R (ρ.t 5) lr 0 n [] w' := by
  have mixed := L.mixed
  have t5 := L.t5; have a5 := L.a5; have z5 := L.z5; have v5 := L.v5
  have t130 := L.t130; have a130 := L.a130; have z130 := L.z130; have v130 := L.v130
  have t3 := L.t3; have a3 := L.a3; have z3 := L.z3; have v3 := L.v3
  have t4 := L.t4; have a4 := L.a4; have z4 := L.z4; have v4 := L.v4
  have t0 := L.t0; have a0 := L.a0; have z0 := L.z0; have v0 := L.v0
  have t93 := L.t93; have u93 := run_underlying L.t93; have a93 := L.a93; have z93 := L.z93; have v93 := L.v93
  have t131 := L.t131; have a131 := L.a131; have z131 := L.z131; have v131 := L.v131
  have t37 := L.t37; have a37 := L.a37; have z37 := L.z37; have v37 := L.v37
  have t75 := L.t75; have a75 := L.a75; have z75 := L.z75; have v75 := L.v75
  have e181 : ∀ args w, (callFunc (ρ.f 181) args).run P w = .ok (.enter (ρ.f 181) args) w := enters_of L.f181 (by kernel_rfl) rfl
  have e251 : ∀ args w, (callFunc (ρ.f 251) args).run P w = .ok (.enter (ρ.f 251) args) w := enters_of L.f251 (by kernel_rfl) rfl
  obtain ⟨i0, hi, hz0, hz1, hz2⟩ := info_parts L.i5
  obtain ⟨M, hM⟩ : ∃ M, M = madeCells (Value.int .u8 0).cells ((64 : Int).toNat * i0.size) := ⟨_, rfl⟩
  have hMs : M.size = 64 := by rw [hM, size_madeCells, hz1]; rfl
  have hmk : ∀ W : World, (Instr.makeSlice (ρ.t 37) (.int .i64 (n : Int)) (.int .i64 64)).run P W = .ok (.slice (some ⟨W.heap.size, 0, none⟩) n 64) (W.alloc (.cells M (ρ.t 5))) := fun W => by
    have h := run_makeSlice (P := P) W (ρ.t 37) (ρ.t 5) i0 (.int .u8 0) L.t37 hi hz0 .i64 .i64 (n : Int) 64 (by omega) (by omega) (by rw [hz1]; decide) (by rw [hz2]; decide) (by decide)
    rw [← hM] at h
    simpa using h
  clear hM
  have hIs : LibA.IsBuffer T R (ρ.t 5) 0 b q [] w := ⟨Nat.zero_le _, _, _, hbk, World.ownsRow_nil _ _ _ _, by simp [Value.ownBlock]⟩
  have hnil : ∀ W, (binOp .eql (ρ.t 37) (.slice none 0 0) (.slice none 0 0)).run P W = .ok (.bool true) W := fun W => Lib.run_eql_slice_nil_nil W _ _ L.t37
  go_enter L.f252, Body.n252_ntmps ρ
  go_wp2_with (go_at_fn (ρ.f 181); refine (Any.Buffer_Len_at { L with } T R 0 b q [] _ hIs).mono ?_)
  rintro e W0 ⟨rfl, k, hW0⟩
  have hbk0 : LibA.Three W0 b q T R (.slice none 0 0) (.int .i64 0) (.int .i8 lr) := by rw [hW0]; exact hbk
  have c0 : W0.cell? ⟨b, q, none⟩ = some (.slice none 0 0) := hbk0.c0
  have c1 : W0.cell? ⟨b, q + 1, none⟩ = some (.int .i64 0) := hbk0.c1
  have f0 : W0.frozen? ⟨b, q, none⟩ = false := hbk0.f q
  have f1 : W0.frozen? ⟨b, q + 1, none⟩ = false := hbk0.f (q + 1)
  have hbW0 := hbk0.lt
  have c0a : ∀ o, (W0.alloc o).cell? ⟨b, q, none⟩ = some (.slice none 0 0) := fun o => (World.cell?_of_block (a := ⟨b, q, none⟩) (Below.heap_alloc W0 o b hbW0)).trans c0
  have f0a : ∀ o, (W0.alloc o).frozen? ⟨b, q, none⟩ = false := fun o => (World.frozen?_of_block (a := ⟨b, q, none⟩) (Below.heap_alloc W0 o b hbW0)).trans f0
  have HW0 := Lib.hid hW0
  clear hW0 hIs
  go_wp2_with (go_at_fn (ρ.f 251); refine (Any.Buffer_tryGrow_none_at { L with } b q _ 0 0 n _ c0 (Nat.le_refl _) (Nat.zero_le _) (by omega)).mono ?_; rintro e w' ⟨rfl, rfl⟩)
  go_ret
  have hsz0 : w.heap.size = w'.heap.size := by rw [HW0.out]; rfl
  have hg0 : w.grownBy w' (some b) := by rw [HW0.out]; exact ⟨rfl, rfl, rfl, Nat.le_refl _, fun _ _ _ => rfl⟩
  exact ⟨rfl, moved_small hbk0 hsz0 hMs h64 (by unfold maxLen; omega) hg0⟩

end Go.Abs

