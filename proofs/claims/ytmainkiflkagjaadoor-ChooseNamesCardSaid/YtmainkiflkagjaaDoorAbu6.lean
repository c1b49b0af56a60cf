/-
An abstract machine over values as trees: a call that is handed some of the objects.
-/
import Derived.Test.YtmainkiflkagjaaDoorAbu5
import Derived.KernelRfl
import Derived.Laws.BitsAllLaws
import Derived.Laws.BitsLemmas
import Derived.IntWalk
import Derived.Test.YtmainkiflkagjaaDoorChecked
import Derived.Laws.Strings
namespace Go.Abs
open Go
variable {P : Program}

/-- Back from a callee's numbers. -/
def backN (n : Nat) (ids : List Nat) (m : Nat) (j : Nat) : Option Nat :=
  if j < ids.length then ids[j]? else if j < m then some (n + (j - ids.length)) else none

def outR (ρ : Nat → Option Nat) : AOut → AOut
  | .ret v => .ret (ren ρ v)
  | .pan v => .pan (ren ρ v)

/-- The objects behind the call. -/
def mergeH (H : Heap) (ids : List Nat) (Hs : Heap) : Heap :=
  (H.zipIdx.map fun x => match ids.idxOf? x.2 with
    | some j => renH (backN H.length ids Hs.length) (Hs.getD j .dead)
    | none => x.1) ++ (Hs.drop ids.length).map (renH (backN H.length ids Hs.length))

def subH (H : Heap) (ids : List Nat) : Heap := ids.map fun b => renH (ids.idxOf? ·) (H.getD b .dead)

theorem renH_mut (ρ : Nat → Option Nat) (o : HO) (i : Nat) : (renH ρ o).mut i ↔ o.mut i := by cases o <;> exact Iff.rfl

theorem ObjR.ren {w w' : World} {M M' : Mut} {n n' : Nat} {G G' : Gh} {ρ : Nat → Option Nat} {l : Option Loc} {o : HO} (h : ObjR w M n G l o)
    (hcell : ∀ k i v, w.cell? ⟨k, i, none⟩ = some v → ¬ M k i → w'.cell? ⟨k, i, none⟩ = some v ∧ ¬ M' k i)
    (hρ : ∀ b b', ρ b = some b' → b' < n' ∧ ∀ l, G' b' = some l → G b = some l) (hb : ∀ l0 k, l = some l0 → l0.block = some k → w'.heap[k]? = w.heap[k]?) : ObjR w' M' n' G' l (renH ρ o) := by
  cases o with
  | dead => exact h
  | var cs =>
    obtain ⟨k, cv, t, rfl, hk, hs, hc⟩ := h
    refine ⟨k, cv, t, rfl, (hb _ k rfl rfl).trans hk, by rw [renL_length]; exact hs, fun q v x g1 g2 => ?_⟩
    rw [renL_get, Option.map_eq_some_iff] at g2
    obtain ⟨y, hy, rfl⟩ := g2
    exact ⟨(hc q v y g1 hy).1, (hc q v y g1 hy).2.ren hcell hρ⟩
  | row wr e sz es =>
    obtain ⟨h0, hl, h⟩ := h
    refine ⟨h0, hl, ?_⟩
    rcases h with ⟨rfl, a, rfl⟩ | ⟨g, cap, cur, rfl, hk, h1, h2, h3, h4, h5⟩
    · exact .inl ⟨rfl, a, rfl⟩
    · exact .inr ⟨g, cap, cur, rfl, (hb _ g rfl rfl).trans hk, h1, h2, h3, h4, fun i el j x u a b c => (h5 i el j x u a b c).mono hcell (Nat.le_refl _) (fun _ _ _ h => h)⟩
  | iter s pos =>
    obtain ⟨k, rfl, hk⟩ := h
    exact ⟨k, rfl, (hb _ k rfl rfl).trans hk⟩

theorem idx_some {ids : List Nat} {b : Nat} (h : b ∈ ids) : ∃ i, ids.idxOf? b = some i := by
  rw [← List.isSome_idxOf?] at h
  exact Option.isSome_iff_exists.1 h
theorem idx_none {ids : List Nat} {b : Nat} (h : ids.idxOf? b = none) : b ∉ ids := by
  rwa [List.idxOf?_eq_none_iff] at h
theorem idx_at {ids : List Nat} (hnd : ids.Nodup) {b i : Nat} (h : ids[i]? = some b) : ids.idxOf? b = some i := by
  obtain ⟨j, hj⟩ := idx_some (List.mem_of_getElem? h)
  have := idx_get hj
  rw [(List.getElem?_inj (List.getElem?_eq_some_iff.1 h).1 hnd).1 (h.trans this.symm)]
  exact hj

theorem sub_call {f : FuncId} {args : List AV} {H : Heap} {ids : List Nat} {Q : AOut → Heap → Prop} (hnd : ids.Nodup) (hlt : ∀ b ∈ ids, b < H.length)
    (h : FOK P f (renL (ids.idxOf? ·) args) (subH H ids) fun out Hs => Q (outR (backN H.length ids Hs.length) out) (mergeH H ids Hs)) : FOK P f args H Q := by
  refine ⟨h.1, fun Mx G w cargs hs ht => ?_⟩
  let Mx' : Mut := fun k i => Mx k i ∨ ∃ b l o, b ∉ ids ∧ G b = some l ∧ H[b]? = some o ∧ l.block = some k ∧ o.mut i
  let Gs : Gh := fun i => (ids[i]?).bind G
  have hsl : (subH H ids).length = ids.length := by simp [subH]
  have hGs : ∀ i l, Gs i = some l → ∃ b, ids[i]? = some b ∧ G b = some l := fun i l h => by simp only [Gs, Option.bind_eq_some_iff] at h; exact h
  have hsub : ∀ (i : Nat) o', (subH H ids)[i]? = some o' → ∃ b, ids[i]? = some b ∧ o' = renH (ids.idxOf? ·) (H.getD b .dead) := fun i o' h => by
    simp only [subH, List.getElem?_map, Option.map_eq_some_iff] at h
    obtain ⟨b, h1, h2⟩ := h
    exact ⟨b, h1, h2.symm⟩
  have hgetD : ∀ b, b < H.length → H[b]? = some (H.getD b .dead) := fun b hb => by rw [List.getD_eq_getElem?_getD, List.getElem?_eq_getElem hb]; rfl
  have hMM : ∀ k i, MM Mx' Gs (subH H ids) k i → MM Mx G H k i := by
    rintro k i ((hx | ⟨b, l, o, _, h2, h3, h4, h5⟩) | ⟨i', l, o', h1, h2, h3, h4⟩)
    · exact .inl hx
    · exact .inr ⟨b, l, o, h2, h3, h4, h5⟩
    · obtain ⟨b, g1, g2⟩ := hGs i' l h1
      obtain ⟨b2, g3, rfl⟩ := hsub i' o' h2
      rw [g1] at g3
      cases g3
      exact .inr ⟨b, l, _, g2, hgetD b (hs.dom b l g2), h3, (renH_mut _ _ _).1 h4⟩
  have hcell0 : ∀ k i v, w.cell? ⟨k, i, none⟩ = some v → ¬ MM Mx G H k i → w.cell? ⟨k, i, none⟩ = some v ∧ ¬ MM Mx' Gs (subH H ids) k i := fun k i v h1 h2 => ⟨h1, fun h => h2 (hMM k i h)⟩
  have hρ0 : ∀ b b', ids.idxOf? b = some b' → b' < (subH H ids).length ∧ ∀ l, Gs b' = some l → G b = some l := fun b b' h => by
    have hb := idx_get h
    refine ⟨by rw [hsl]; exact (List.getElem?_eq_some_iff.1 hb).1, fun l hl => ?_⟩
    obtain ⟨b1, h1, h2⟩ := hGs b' l hl
    rw [hb] at h1
    cases h1
    exact h2
  have hs' : Sim Mx' Gs (subH H ids) w := by
    refine ⟨fun i l h => ?_, fun i o' h => ?_, fun i j l1 l2 k h1 h2 k1 k2 => ?_, fun i l k q h hk hx => ?_, fun k i h => ?_⟩
    · obtain ⟨b, h1, _⟩ := hGs i l h
      rw [hsl]
      exact (List.getElem?_eq_some_iff.1 h1).1
    · obtain ⟨b, h1, rfl⟩ := hsub i o' h
      have hgi : Gs i = G b := by simp [Gs, h1]
      rw [hgi]
      exact (hs.obj b _ (hgetD b (hlt b (List.mem_of_getElem? h1)))).ren hcell0 hρ0 (fun _ _ _ _ => rfl)
    · obtain ⟨b1, g1, g2⟩ := hGs i l1 h1
      obtain ⟨b2, g3, g4⟩ := hGs j l2 h2
      have := hs.inj b1 b2 l1 l2 k g2 g4 k1 k2
      subst this
      exact (List.getElem?_inj (List.getElem?_eq_some_iff.1 g1).1 hnd).1 (g1.trans g3.symm)
    · obtain ⟨b, g1, g2⟩ := hGs i l h
      rcases hx with hx | ⟨b2, l2, o2, m1, m2, m3, m4, _⟩
      · exact hs.ext b l k q g2 hk hx
      · have := hs.inj b b2 l l2 k g2 m2 hk m4
        subst this
        exact m1 (List.mem_of_getElem? g1)
    · rcases h with h | ⟨b, l, o, _, h2, _, h4, _⟩
      · exact hs.lt k i h
      · exact hs.blk_lt h2 h4
  have ht' : TV w (MM Mx' Gs (subH H ids)) (subH H ids).length Gs cargs (renL (ids.idxOf? ·) args) := by
    refine ⟨by rw [renL_length]; exact ht.1, fun i v x h1 h2 => ?_⟩
    rw [renL_get, Option.map_eq_some_iff] at h2
    obtain ⟨y, hy, rfl⟩ := h2
    exact (ht.2 i v y h1 hy).ren hcell0 hρ0
  refine (h.2 Mx' Gs w cargs hs' ht').mono fun e w' ⟨out, Hs, Gn, hst, hsim, her, hq⟩ => ?_
  rw [hsl] at hst
  have hn0 : ids.length ≤ Hs.length := hst.len.2
  let σ := backN H.length ids Hs.length
  let G' : Gh := fun b => if b < H.length then (match ids.idxOf? b with | some j => Gn j | none => G b) else Gn (b - H.length + ids.length)
  have hml : (mergeH H ids Hs).length = H.length + (Hs.length - ids.length) := by simp [mergeH]
  have hA : ∀ b, b < H.length → ids.idxOf? b = none → G' b = G b ∧ (mergeH H ids Hs)[b]? = H[b]? := fun b hb hi => by
    refine ⟨by simp [G', hb, hi], ?_⟩
    rw [mergeH, List.getElem?_append_left (by simpa using hb), List.getElem?_map, List.getElem?_zipIdx, List.getElem?_eq_getElem hb]
    simp [hi]
  have hB : ∀ b j, b < H.length → ids.idxOf? b = some j → G' b = Gn j ∧ (mergeH H ids Hs)[b]? = some (renH σ (Hs.getD j .dead)) := fun b j hb hi => by
    refine ⟨by simp [G', hb, hi], ?_⟩
    rw [mergeH, List.getElem?_append_left (by simpa using hb), List.getElem?_map, List.getElem?_zipIdx, List.getElem?_eq_getElem hb]
    simp [hi, σ]
  have hC : ∀ b, ¬ b < H.length → G' b = Gn (b - H.length + ids.length) ∧ (mergeH H ids Hs)[b]? = (Hs[b - H.length + ids.length]?).map (renH σ) := fun b hb => by
    refine ⟨by simp [G', hb], ?_⟩
    rw [mergeH, List.getElem?_append_right (by simp; omega), List.getElem?_map, List.getElem?_drop]
    simp only [List.length_map, List.length_zipIdx]
    rw [Nat.add_comm ids.length]
  -- every object is an old one, or one of the callee's
  have hall : ∀ b l, G' b = some l → (b < H.length ∧ b ∉ ids ∧ G b = some l) ∨ ∃ j, Gn j = some l ∧ σ j = some b := fun b l hg => by
    by_cases hb : b < H.length
    · cases hi : ids.idxOf? b with
      | none => rw [(hA b hb hi).1] at hg; exact .inl ⟨hb, idx_none hi, hg⟩
      | some j =>
        rw [(hB b j hb hi).1] at hg
        have hj := idx_get hi
        exact .inr ⟨j, hg, by simp only [σ, backN]; rw [if_pos (List.getElem?_eq_some_iff.1 hj).1, hj]⟩
    · rw [(hC b hb).1] at hg
      have := hsim.dom _ _ hg
      exact .inr ⟨_, hg, by simp only [σ, backN]; rw [if_neg (by omega), if_pos this]; congr 1; omega⟩
  have hσ : ∀ j b, σ j = some b → b < (mergeH H ids Hs).length ∧ G' b = Gn j ∧ (mergeH H ids Hs)[b]? = (Hs[j]?).map (renH σ) := fun j b hj => by
    simp only [σ, backN] at hj
    split at hj
    · rename_i hjl
      have hb := hlt b (List.mem_of_getElem? hj)
      have hi := idx_at hnd hj
      obtain ⟨h1, h2⟩ := hB b j hb hi
      refine ⟨by omega, h1, ?_⟩
      rw [h2, List.getD_eq_getElem?_getD, List.getElem?_eq_getElem (show j < Hs.length by omega)]
      rfl
    · split at hj
      · injection hj with hj
        subst hj
        obtain ⟨h1, h2⟩ := hC (H.length + (j - ids.length)) (by omega)
        rw [show H.length + (j - ids.length) - H.length + ids.length = j by omega] at h1 h2
        exact ⟨by omega, h1, h2⟩
      · cases hj
  have hMM2 : ∀ k i, MM Mx G' (mergeH H ids Hs) k i → MM Mx' Gn Hs k i := by
    rintro k i (hx | ⟨b, l, o, h1, h2, h3, h4⟩)
    · exact .inl (.inl hx)
    · rcases hall b l h1 with ⟨hb, hni, hg⟩ | ⟨j, hg, hj⟩
      · have hi : ids.idxOf? b = none := by rw [List.idxOf?_eq_none_iff]; exact hni
        rw [(hA b hb hi).2] at h2
        exact .inl (.inr ⟨b, l, o, hni, hg, h2, h3, h4⟩)
      · obtain ⟨_, _, h5⟩ := hσ j b hj
        rw [h5, Option.map_eq_some_iff] at h2
        obtain ⟨o', ho', rfl⟩ := h2
        exact .inr ⟨j, l, o', hg, ho', h3, (renH_mut _ _ _).1 h4⟩
  have hcell : ∀ k i v, w.cell? ⟨k, i, none⟩ = some v → ¬ MM Mx G H k i → w'.cell? ⟨k, i, none⟩ = some v ∧ ¬ MM Mx G' (mergeH H ids Hs) k i := fun k i v h1 h2 => by
    obtain ⟨a1, a2⟩ := hst.still k i v h1 (fun h => h2 (hMM k i h))
    exact ⟨a1, fun h => a2 (hMM2 k i h)⟩
  have hcell' : ∀ k i v, w'.cell? ⟨k, i, none⟩ = some v → ¬ MM Mx' Gn Hs k i → w'.cell? ⟨k, i, none⟩ = some v ∧ ¬ MM Mx G' (mergeH H ids Hs) k i := fun k i v h1 h2 => ⟨h1, fun h => h2 (hMM2 k i h)⟩
  have hρ : ∀ j b, σ j = some b → b < (mergeH H ids Hs).length ∧ ∀ l, G' b = some l → Gn j = some l := fun j b hj => ⟨(hσ j b hj).1, fun l hl => by rw [(hσ j b hj).2.1] at hl; exact hl⟩
  have hGG : ∀ b l, b < H.length → G' b = some l → G b = some l := fun b l hb hg => by
    cases hi : ids.idxOf? b with
    | none => rw [(hA b hb hi).1] at hg; exact hg
    | some j =>
      rw [(hB b j hb hi).1] at hg
      have hj := idx_get hi
      exact (hρ0 b j hi).2 l (hst.gh j l (List.getElem?_eq_some_iff.1 hj).1 hg)
  have hnew : ∀ j l k, Gn j = some l → l.block = some k → (∃ b0 l0, b0 ∈ ids ∧ G b0 = some l0 ∧ l0.block = some k) ∨ w.heap.size ≤ k := fun j l k hg hk => by
    rcases hst.new j l k hg hk with ⟨i0, l0, g1, g2⟩ | hge
    · obtain ⟨b, m1, m2⟩ := hGs i0 l0 g1
      exact .inl ⟨b, l0, List.mem_of_getElem? m1, m2, g2⟩
    · exact .inr hge
  have hfarA : ∀ b l k, b ∉ ids → G b = some l → l.block = some k → w'.heap[k]? = w.heap[k]? := fun b l k hb hg hk => hst.far k (hs.blk_lt hg hk) (fun i l1 h1 hk1 => by
    obtain ⟨b1, m1, m2⟩ := hGs i l1 h1
    have := hs.inj b1 b l1 l k m2 hg hk1 hk
    subst this
    exact hb (List.mem_of_getElem? m1))
  have hfin : Sim Mx G' (mergeH H ids Hs) w' := by
    refine ⟨fun b l h => ?_, fun b o h => ?_, fun b b' l l' k h1 h2 k1 k2 => ?_, fun b l k i h hk hx => ?_, fun k i h => Nat.lt_of_lt_of_le (hs.lt k i h) hst.size⟩
    · rcases hall b l h with ⟨hb, _, _⟩ | ⟨j, _, hj⟩
      · omega
      · exact (hσ j b hj).1
    · by_cases hb : b < H.length
      · cases hi : ids.idxOf? b with
        | none =>
          obtain ⟨e1, e2⟩ := hA b hb hi
          rw [e2] at h
          rw [e1]
          exact (hs.obj b o h).mono hcell (by omega) hGG (fun l k hl hk => hfarA b l k (idx_none hi) hl hk)
        | some j =>
          obtain ⟨e1, e2⟩ := hB b j hb hi
          rw [e2] at h
          cases h
          rw [e1]
          have hjl : j < Hs.length := by have := (List.getElem?_eq_some_iff.1 (idx_get hi)).1; omega
          exact (hsim.obj j (Hs.getD j .dead) (by rw [List.getD_eq_getElem?_getD, List.getElem?_eq_getElem hjl]; rfl)).ren hcell' hρ (fun _ _ _ _ => rfl)
      · obtain ⟨e1, e2⟩ := hC b hb
        rw [e2, Option.map_eq_some_iff] at h
        obtain ⟨o', ho', rfl⟩ := h
        rw [e1]
        exact (hsim.obj _ o' ho').ren hcell' hρ (fun _ _ _ _ => rfl)
    · rcases hall b l h1 with ⟨hb, hni, hg⟩ | ⟨j, hg, hj⟩ <;> rcases hall b' l' h2 with ⟨hb', hni', hg'⟩ | ⟨j', hg', hj'⟩
      · exact hs.inj b b' l l' k hg hg' k1 k2
      · rcases hnew j' l' k hg' k2 with ⟨b0, l0, m1, m2, m3⟩ | hge
        · have := hs.inj b b0 l l0 k hg m2 k1 m3
          subst this
          exact absurd m1 hni
        · have := hs.blk_lt hg k1; omega
      · rcases hnew j l k hg k1 with ⟨b0, l0, m1, m2, m3⟩ | hge
        · have := hs.inj b' b0 l' l0 k hg' m2 k2 m3
          subst this
          exact absurd m1 hni'
        · have := hs.blk_lt hg' k2; omega
      · have := hsim.inj j j' l l' k hg hg' k1 k2
        subst this
        rw [hj] at hj'
        cases hj'
        rfl
    · rcases hall b l h with ⟨hb, hni, hg⟩ | ⟨j, hg, hj⟩
      · exact hs.ext b l k i hg hk hx
      · exact hsim.ext j l k i hg hk (.inl hx)
  refine ⟨outR σ out, mergeH H ids Hs, G', ⟨hst.os, hst.tape, hst.output, hst.size, ⟨Nat.le_refl _, by omega⟩, fun k hk hn => hst.far k hk (fun i l h1 hk1 => ?_), hcell, hGG, fun b l k h hk => ?_⟩, hfin, ?_, hq⟩
  · obtain ⟨b, m1, m2⟩ := hGs i l h1
    exact hn b l m2 hk1
  · rcases hall b l h with ⟨hb, hni, hg⟩ | ⟨j, hg, hj⟩
    · exact .inl ⟨b, l, hg, hk⟩
    · rcases hnew j l k hg hk with ⟨b0, l0, _, m2, m3⟩ | hge
      · exact .inl ⟨b0, l0, m2, m3⟩
      · exact .inr hge
  · cases her with
    | ret v x hr => exact .ret v _ (hr.ren hcell' hρ)
    | pan v x hr => exact .pan v _ (hr.ren hcell' hρ)

end Go.Abs

/-
An abstract machine over values as trees: calls that touch no object; tables of contracts.
-/
namespace Go.Abs
open Go
variable {P : Program}

theorem frzA_sound {Mx : Mut} {G : Gh} {w : World} {H : Heap} (hs : Sim Mx G H w) {v : Value} {x : AV} (hx : RV w (MM Mx G H) H.length G v x) :
    Sim Mx G (frzA H x).2 w ∧ Step H.length Mx G H w G (frzA H x).2 w ∧ (frzA H x).2.length = H.length ∧ RV w (MM Mx G (frzA H x).2) 0 G0 v (frzA H x).1 := by
  cases x with
  | agg cs =>
    obtain ⟨vs, rfl, hl, hc⟩ := hx.agg_inv
    obtain ⟨h1, h2, h3, h4, h5⟩ := frzs_sound cs H vs.toList hs (by simpa using hl) (fun i u y e1 e2 => hc i u y (by simpa using e1) e2)
    exact ⟨h1, h2, h3, .agg _ _ _ _ (by rw [hl]; exact h4.symm) (fun i u y e1 e2 => h5 i u y (by simpa using e1) e2)⟩
  | _ => exact frz_sound hs hx

theorem frzAs_sound {Mx : Mut} {G : Gh} {w : World} : ∀ (xs : List AV) (H : Heap) (vs : List Value), Sim Mx G H w → vs.length = xs.length →
    (∀ (i : Nat) v x, vs[i]? = some v → xs[i]? = some x → RV w (MM Mx G H) H.length G v x) →
    Sim Mx G (frzAs H xs).2 w ∧ Step H.length Mx G H w G (frzAs H xs).2 w ∧ (frzAs H xs).2.length = H.length ∧ (frzAs H xs).1.length = xs.length ∧
      ∀ (i : Nat) v y, vs[i]? = some v → (frzAs H xs).1[i]? = some y → RV w (MM Mx G (frzAs H xs).2) 0 G0 v y
  | [], H, vs, hs, _, _ => ⟨hs, Step.refl, rfl, rfl, fun i v y _ h => by simp [frzAs] at h⟩
  | x :: r, H, [], hs, hl, _ => by simp at hl
  | x :: r, H, v :: vs, hs, hl, hx => by
    obtain ⟨h1, h2, h3, h4⟩ := frzA_sound hs (hx 0 v x rfl rfl)
    obtain ⟨k1, k2, k3, k4, k5⟩ := frzAs_sound r (frzA H x).2 vs h1 (by simpa using hl) (fun i u y e1 e2 => h2.rv (hx (i + 1) u y (by simpa using e1) (by simpa using e2)))
    refine ⟨k1, h2.trans (by omega) k2, by simp only [frzAs]; omega, by simp only [frzAs, List.length_cons]; omega, fun i u y e1 e2 => ?_⟩
    cases i with
    | zero =>
      simp only [frzAs, List.getElem?_cons_zero, Option.some.injEq] at e1 e2
      subst e1; subst e2
      exact h4.mono (fun k i v g1 g2 => k2.still k i v g1 g2) (Nat.le_refl _) (fun _ _ _ h => h)
    | succ i =>
      simp only [frzAs, List.getElem?_cons_succ] at e1 e2
      exact k5 i u y e1 e2

theorem FOK.imp {f : FuncId} {args : List AV} {H : Heap} {Q Q' : AOut → Heap → Prop} (h : FOK P f args H Q) (hQ : ∀ o h, Q o h → Q' o h) : FOK P f args H Q' :=
  ⟨h.1, fun Mx G w cargs hs ht => (h.2 Mx G w cargs hs ht).mono fun _ _ ⟨out, H', G', h1, h2, h3, h4⟩ => ⟨out, H', G', h1, h2, h3, hQ _ _ h4⟩⟩

/-- What a call of a callee that is handed no object leaves. -/
theorem pure_run {f : FuncId} {args : List AV} {H : Heap} {Q0 : AOut → Prop} (h : FOK P f (frzAs H args).1 [] fun out Hs => Hs = [] ∧ Q0 out) :
    Enters P f ∧ ∀ Mx G w cargs, Sim Mx G H w → TV w (MM Mx G H) H.length G cargs args → Calls P f cargs w fun e w' =>
      w'.os = w.os ∧ w'.tape = w.tape ∧ w'.output = w.output ∧ w.heap.size ≤ w'.heap.size ∧ (∀ k, k < w.heap.size → w'.heap[k]? = w.heap[k]?) ∧
        ∃ out, ER w' (MM Mx G (frzAs H args).2) 0 G0 e out ∧ Q0 out := by
  refine ⟨h.1, fun Mx G w cargs hs ht => ?_⟩
  obtain ⟨k1, k2, k3, k4, k5⟩ := frzAs_sound args H cargs.toList hs (by simpa using ht.1) (fun i v x e1 e2 => ht.2 i v x (by simpa using e1) e2)
  refine (h.2 (MM Mx G (frzAs H args).2) G0 w cargs ⟨fun b l hb => (by cases hb), fun b o hb => by simp at hb, fun b b' l l' k hb => (by cases hb), fun b l k i hb => (by cases hb), fun k i hm => ?_⟩ ⟨?_, fun i v x e1 e2 => ?_⟩).mono fun e w' ⟨out, Hs, Gs, h1, h2, h3, h4, h5⟩ => ?_
  · rcases hm with hm | ⟨b, l, o, g1, g2, g3, _⟩
    · exact k1.lt k i hm
    · exact k1.blk_lt g1 g3
  · rw [k4]; exact ht.1
  · refine (k5 i v x (by simpa using e1) e2).mono (fun k i v g1 g2 => ⟨g1, fun hm => ?_⟩) (Nat.le_refl _) (fun _ _ _ h => h)
    rcases hm with hm | ⟨b, l, o, hb, _⟩
    · exact g2 hm
    · cases hb
  · subst h4
    refine ⟨h1.os, h1.tape, h1.output, h1.size, fun k hk => h1.far k hk (fun b l hb => by cases hb), out, ?_, h5⟩
    have hv : ∀ {v x}, RV w' (MM (MM Mx G (frzAs H args).2) Gs []) 0 Gs v x → RV w' (MM Mx G (frzAs H args).2) 0 G0 v x := fun hv => hv.mono (fun k i v g1 g2 => ⟨g1, fun hm => g2 (.inl hm)⟩) (Nat.le_refl _) (fun b l hb => absurd hb (Nat.not_lt_zero _))
    cases h3 with
    | ret v x hr => exact .ret v x (hv hr)
    | pan v x hr => exact .pan v x (hv hr)

/-- The old blocks stay: all objects stand as they stood. -/
theorem Sim.grown {Mx : Mut} {G : Gh} {H : Heap} {w w' : World} (hs : Sim Mx G H w) (h1 : w'.os = w.os) (h2 : w'.tape = w.tape) (h3 : w'.output = w.output) (h4 : w.heap.size ≤ w'.heap.size) (h5 : ∀ k, k < w.heap.size → w'.heap[k]? = w.heap[k]?) :
    Sim Mx G H w' ∧ Step H.length Mx G H w G H w' := by
  have hcell : ∀ k i v, w.cell? ⟨k, i, none⟩ = some v → w'.cell? ⟨k, i, none⟩ = some v := fun k i v hc => by
    have hlt : k < w.heap.size := by
      rcases Nat.lt_or_ge k w.heap.size with h | h
      · exact h
      · simp [World.cell?, Array.getElem?_eq_none h] at hc
    simp only [World.cell?] at hc ⊢
    rw [h5 k hlt]
    exact hc
  refine ⟨⟨hs.dom, fun b o hb => ?_, hs.inj, hs.ext, fun k i hm => Nat.lt_of_lt_of_le (hs.lt k i hm) h4⟩, ⟨h1, h2, h3, h4, ⟨Nat.le_refl _, Nat.le_refl _⟩, fun k hk _ => h5 k hk, fun k i v g1 g2 => ⟨hcell k i v g1, g2⟩, fun b l _ h => h, fun b l k g1 g2 => .inl ⟨b, l, g1, g2⟩⟩⟩
  refine ObjR.mono (w := w) (w' := w') (fun k i v g1 g2 => ⟨hcell k i v g1, g2⟩) (Nat.le_refl _) (fun _ _ _ h => h) (fun l0 k hl hk => ?_) (hs.obj b o hb)
  exact h5 k (hs.blk_lt hl hk)

theorem pure_ok {f : FuncId} {args : List AV} {H : Heap} {Q0 : AOut → Prop} (h : FOK P f (frzAs H args).1 [] fun out Hs => Hs = [] ∧ Q0 out) :
    FOK P f args H fun out H' => H' = (frzAs H args).2 ∧ Q0 out := by
  obtain ⟨he, h⟩ := pure_run h
  refine ⟨he, fun Mx G w cargs hs ht => (h Mx G w cargs hs ht).mono fun e w' ⟨g1, g2, g3, g4, g5, out, g6, g7⟩ => ?_⟩
  obtain ⟨k1, k2, k3, k4, k5⟩ := frzAs_sound args H cargs.toList hs (by simpa using ht.1) (fun i v x e1 e2 => ht.2 i v x (by simpa using e1) e2)
  obtain ⟨m1, m2⟩ := k1.grown g1 g2 g3 g4 g5
  refine ⟨out, _, G, k2.trans (by omega) m2, m1, ?_, rfl, g7⟩
  cases g6 with
  | ret v x hr => exact .ret v x hr.lift
  | pan v x hr => exact .pan v x hr.lift

mutual
/-- Trees without memory. -/
def flat : AV → Bool
  | .any | .bool _ | .int .. | .str _ | .nilptr | .nilmap | .nilfunc | .nilIface | .zslice => true
  | .iface _ v => flat v
  | .agg cs => flats cs
  | .tuple vs => flats vs
  | _ => false
def flats : List AV → Bool
  | [] => true
  | v :: r => flat v && flats r
end
theorem flats_get : ∀ {l : List AV} {i : Nat} {x : AV}, flats l = true → l[i]? = some x → flat x = true
  | [], i, x, _, h => by simp at h
  | v :: r, 0, x, h, hx => by
    simp only [flats, Bool.and_eq_true] at h
    simp only [List.getElem?_cons_zero, Option.some.injEq] at hx
    subst hx
    exact h.1
  | v :: r, i + 1, x, h, hx => by
    simp only [flats, Bool.and_eq_true] at h
    exact flats_get h.2 (by simpa using hx)

theorem RV.flat {w w' : World} {M M' : Mut} {n : Nat} {G : Gh} {v : Value} {x : AV} (h : RV w M n G v x) : Abs.flat x = true → ∀ {n' : Nat} {G' : Gh}, RV w' M' n' G' v x := by
  induction h with
  | any => intros; exact .any ..
  | bool => intros; exact .bool ..
  | int => intros; exact .int ..
  | str => intros; exact .str ..
  | nilptr => intros; exact .nilptr ..
  | nilmap => intros; exact .nilmap ..
  | nilfunc => intros; exact .nilfunc ..
  | nilIface => intros; exact .nilIface ..
  | zslice => intros; exact .zslice ..
  | iface n G t v x h ih => intro hf n' G'; exact .iface _ _ _ _ _ (ih hf)
  | agg n G cs asl hl h ih => intro hf n' G'; exact .agg _ _ _ _ hl (fun i v x e1 e2 => ih i v x e1 e2 (flats_get hf e2))
  | tuple n G cs asl hl h ih => intro hf n' G'; exact .tuple _ _ _ _ hl (fun i v x e1 e2 => ih i v x e1 e2 (flats_get hf e2))
  | _ => intro hf; simp [Abs.flat] at hf

def flatO : AOut → Bool
  | .ret v => flat v
  | .pan v => flat v

/-- A call whose answer holds no memory leaves all objects as they were. -/
theorem flat_ok {f : FuncId} {args : List AV} {H : Heap} {Q0 : AOut → Prop} (h : FOK P f (frzAs H args).1 [] fun out Hs => Hs = [] ∧ Q0 out) (hf : ∀ out, Q0 out → flatO out = true) :
    FOK P f args H fun out H' => H' = H ∧ Q0 out := by
  obtain ⟨he, h⟩ := pure_run h
  refine ⟨he, fun Mx G w cargs hs ht => (h Mx G w cargs hs ht).mono fun e w' ⟨g1, g2, g3, g4, g5, out, g6, g7⟩ => ?_⟩
  obtain ⟨m1, m2⟩ := hs.grown g1 g2 g3 g4 g5
  refine ⟨out, _, G, m2, m1, ?_, rfl, g7⟩
  have := hf out g7
  cases g6 with
  | ret v x hr => exact .ret v x (hr.flat this)
  | pan v x hr => exact .pan v x (hr.flat this)

/-! ### Tables -/
abbrev Spec := List AV → Heap → (AOut → Heap → Prop) → Prop

structure SGood (P : Program) (f : FuncId) (s : Spec) : Prop where
  ok : ∀ args H Q, s args H Q → FOK P f args H Q
  ang : ∀ args H (K : AOut → Heap → Prop), s args H K → ∃ out H', s args H (fun x h => x = out ∧ h = H') ∧ K out H'
  mono : ∀ args H (K K' : AOut → Heap → Prop), (∀ o h, K o h → K' o h) → s args H K → s args H K'

structure TGood (P : Program) (T : Tab) : Prop where
  ok : TOK P T
  ang : TAng T
  mono : TMono T

def noTab : Tab := fun _ _ _ _ => False
theorem noTab_good : TGood P noTab := ⟨fun _ _ _ _ h => h.elim, fun _ _ _ _ h => h.elim, fun _ _ _ _ _ _ h => h.elim⟩

def ext (T : Tab) (f : FuncId) (s : Spec) : Tab := fun g args H Q => cond (Nat.beq g f) (s args H Q) (T g args H Q)

theorem ext_good {T : Tab} (hT : TGood P T) {f : FuncId} {s : Spec} (hs : SGood P f s) : TGood P (ext T f s) := by
  refine ⟨fun g args H Q h => ?_, fun g args H K h => ?_, fun g args H K K' hk h => ?_⟩ <;> unfold ext at * <;> cases hb : Nat.beq g f <;> rw [hb] at h
  · exact hT.ok g args H Q h
  · have := Nat.eq_of_beq_eq_true hb; subst this; exact hs.ok args H Q h
  · exact hT.ang g args H K h
  · exact hs.ang args H K h
  · exact hT.mono g args H K K' hk h
  · exact hs.mono args H K K' hk h

/-- Contracts in plain values. -/
abbrev GSpec := List AV → (AOut → Prop) → Prop
structure Det (φ : (AOut → Prop) → Prop) : Prop where
  det : ∀ K, φ K → ∃ o, φ (· = o) ∧ K o
  mono : ∀ K K', (∀ o, K o → K' o) → φ K → φ K'
theorem Det.no : Det fun _ => False := ⟨fun _ h => h.elim, fun _ _ _ h => h.elim⟩
theorem Det.at (o : AOut) : Det fun K => K o := ⟨fun _ h => ⟨o, rfl, h⟩, fun _ _ hk h => hk _ h⟩
theorem Det.and {p : Prop} {φ : (AOut → Prop) → Prop} (h : Det φ) : Det fun K => p ∧ φ K := ⟨fun K hk => let ⟨o, h1, h2⟩ := h.det K hk.2; ⟨o, ⟨hk.1, h1⟩, h2⟩, fun K K' hk hh => ⟨hh.1, h.mono K K' hk hh.2⟩⟩
theorem Det.ex {α : Type} {φ : α → (AOut → Prop) → Prop} (h : ∀ a, Det (φ a)) : Det fun K => ∃ a, φ a K := ⟨fun K ⟨a, hk⟩ => let ⟨o, h1, h2⟩ := (h a).det K hk; ⟨o, ⟨a, h1⟩, h2⟩, fun K K' hk ⟨a, hh⟩ => ⟨a, (h a).mono K K' hk hh⟩⟩
theorem Det.cond {b : Bool} {φ ψ : (AOut → Prop) → Prop} (h1 : Det φ) (h2 : Det ψ) : Det fun K => cond b (φ K) (ψ K) := by cases b; exact h2; exact h1

def pureT (g : GSpec) : Spec := fun args H Q => g (frzAs H args).1 (fun out => Q out (frzAs H args).2)
def flatT (g : GSpec) : Spec := fun args H Q => g (frzAs H args).1 (fun out => Q out H)

theorem pureT_good {f : FuncId} {g : GSpec} (hd : ∀ args, Det (g args)) (h : ∀ args Q, g args Q → FOK P f args [] fun out Hs => Hs = [] ∧ Q out) : SGood P f (pureT g) where
  ok := fun args H Q hg => (pure_ok (Q0 := fun out => Q out (frzAs H args).2) (h _ _ hg)).imp fun o h ⟨h1, h2⟩ => by subst h1; exact h2
  ang := fun args H K hg => by
    obtain ⟨o, h1, h2⟩ := (hd _).det _ hg
    exact ⟨o, (frzAs H args).2, (hd _).mono _ _ (fun x hx => ⟨hx, rfl⟩) h1, h2⟩
  mono := fun args H K K' hk hg => (hd _).mono _ _ (fun o ho => hk _ _ ho) hg

theorem flatT_good {f : FuncId} {g : GSpec} (hd : ∀ args, Det (g args)) (hf : ∀ args o, g args (· = o) → flatO o = true) (h : ∀ args Q, g args Q → FOK P f args [] fun out Hs => Hs = [] ∧ Q out) : SGood P f (flatT g) where
  ok := fun args H Q hg => by
    obtain ⟨o, h1, h2⟩ := (hd _).det _ hg
    refine (flat_ok (Q0 := fun out => out = o) (h _ _ h1) (fun out ho => by subst ho; exact hf _ _ h1)).imp fun o' h ⟨e1, e2⟩ => by subst e1; subst e2; exact h2
  ang := fun args H K hg => by
    obtain ⟨o, h1, h2⟩ := (hd _).det _ hg
    exact ⟨o, H, (hd _).mono _ _ (fun x hx => ⟨hx, rfl⟩) h1, h2⟩
  mono := fun args H K K' hk hg => (hd _).mono _ _ (fun o ho => hk _ _ ho) hg

/-! ### Functions without objects of the caller's -/
def frzO (H : Heap) : AOut → AOut
  | .ret (.tuple vs) => .ret (.tuple (frzAs H vs).1)
  | .ret v => .ret (frzA H v).1
  | .pan v => .pan (cond (flat v) v .any)

theorem froz_ok {f : FuncId} {args : List AV} {Q : AOut → Prop} (h : FOK P f args [] fun out Hs => Q (frzO Hs out)) : FOK P f args [] fun out Hs => Hs = [] ∧ Q out := by
  refine ⟨h.1, fun Mx G w cargs hs ht => (h.2 Mx G w cargs hs ht).mono fun e w' ⟨out, H', G', h1, h2, h3, h4⟩ => ?_⟩
  have hG : ∀ b l, G b = some l → False := fun b l hb => absurd (hs.dom b l hb) (Nat.not_lt_zero _)
  have hst : Step ([] : Heap).length Mx G [] w G0 [] w' := ⟨h1.os, h1.tape, h1.output, h1.size, ⟨Nat.le_refl _, Nat.le_refl _⟩, h1.far, fun k i v g1 g2 => ⟨(h1.still k i v g1 g2).1, fun hm => by
      rcases hm with hm | ⟨b, l, o, hb, _⟩
      · exact g2 (.inl hm)
      · cases hb⟩, fun b l hb => absurd hb (Nat.not_lt_zero _), fun b l k hb => by cases hb⟩
  have hsim : Sim Mx G0 [] w' := ⟨fun b l hb => (by cases hb), fun b o hb => (by simp at hb), fun b b' l l' k hb => (by cases hb), fun b l k i hb => (by cases hb), fun k i hm => Nat.lt_of_lt_of_le (hs.lt k i hm) h1.size⟩
  have drop : ∀ {Hf : Heap} {v x}, RV w' (MM Mx G' Hf) 0 G0 v x → RV w' (MM Mx G0 []) ([] : Heap).length G0 v x := fun hv => hv.mono (fun k i v g1 g2 => ⟨g1, fun hm => by
      rcases hm with hm | ⟨b, l, o, hb, _⟩
      · exact g2 (.inl hm)
      · cases hb⟩) (Nat.le_refl _) (fun _ _ _ h => h)
  refine ⟨_, [], G0, hst, hsim, ?_, rfl, h4⟩
  cases h3 with
  | pan v x hr =>
    have hp : frzO H' (.pan x) = .pan (cond (flat x) x .any) := rfl
    rw [hp]
    cases hf : flat x with
    | true => exact .pan v x (hr.flat hf)
    | false => exact .pan v _ (.any ..)
  | ret v x hr =>
    have one : ER w' (MM Mx G0 []) ([] : Heap).length G0 (.returned v) (.ret (frzA H' x).1) := .ret _ _ (drop (frzA_sound h2 hr).2.2.2)
    unfold frzO
    split
    · rename_i vs he
      cases he
      obtain ⟨cs, rfl, hl, hc⟩ := hr.tuple_inv
      obtain ⟨k1, k2, k3, k4, k5⟩ := frzAs_sound vs H' cs.toList h2 (by simpa using hl) (fun i v x e1 e2 => hc i v x (by simpa using e1) e2)
      exact .ret _ _ (.tuple _ _ _ _ (by rw [k4]; exact hl) (fun i v y e1 e2 => drop (k5 i v y (by simpa using e1) e2)))
    · rename_i he
      cases he
      exact one
    · rename_i he
      cases he

theorem body_pure {T : Tab} (hT : TGood P T) (hm : P.follows .mixedOrders = true) {f : FuncId} {fn : Func} (hf : P.funcs[f]? = some fn) (hent : Enters P f) (N : Nat) {args : List AV} {Q : AOut → Prop}
    (h : abody P T 0 N fn args [] fun out Hs => Q (frzO Hs out)) : FOK P f args [] fun out Hs => Hs = [] ∧ Q out :=
  froz_ok (abody_sound hT.ok hT.ang hT.mono hm hf hent (N := N) (H := []) h)

theorem entersOf {f : FuncId} {fn : Func} {c : Code} (hf : P.funcs[f]? = some fn) (hname : (fn.name == "runtime.NumGoroutine") = false) (hb : fn.body = some c) : Enters P f := by
  intro args w
  have h1 : fn.name ≠ "runtime.NumGoroutine" := by simpa using hname
  simp [callFunc, hf, h1, hb, mark]

end Go.Abs

/-
An abstract machine over values as trees: callees that hand back rows of their own.
-/
namespace Go.Abs
open Go
variable {P : Program}

theorem frz_call {f : FuncId} {args : List AV} {H : Heap} {Q : AOut → Heap → Prop} (h : FOK P f (frzAs H args).1 (frzAs H args).2 Q) : FOK P f args H Q := by
  refine ⟨h.1, fun Mx G w cargs hs ht => ?_⟩
  obtain ⟨k1, k2, k3, k4, k5⟩ := frzAs_sound args H cargs.toList hs (by simpa using ht.1) (fun i v x e1 e2 => ht.2 i v x (by simpa using e1) e2)
  refine (h.2 Mx G w cargs k1 ⟨by rw [k4]; exact ht.1, fun i v x e1 e2 => (k5 i v x (by simpa using e1) e2).lift⟩).mono fun e w' ⟨out, H', G', h1, h2, h3, h4⟩ => ⟨out, H', G', ?_, h2, h3, h4⟩
  exact k2.trans (by omega) h1

theorem ren_frz (ρ : Nat → Option Nat) (H : Heap) (x : AV) : ren ρ (frz H x).1 = (frz H x).1 := by
  cases x <;> first | rfl | (simp only [frz]; split <;> rfl)
theorem renL_frzs (ρ : Nat → Option Nat) : ∀ (xs : List AV) (H : Heap), renL ρ (frzs H xs).1 = (frzs H xs).1
  | [], _ => rfl
  | x :: r, H => by simp only [frzs, renL, ren_frz, renL_frzs ρ r]
theorem ren_frzA (ρ : Nat → Option Nat) (H : Heap) (x : AV) : ren ρ (frzA H x).1 = (frzA H x).1 := by
  cases x with
  | agg cs => simp only [frzA, ren, renL_frzs]
  | _ => exact ren_frz ρ H _
theorem renL_frzAs (ρ : Nat → Option Nat) : ∀ (xs : List AV) (H : Heap), renL ρ (frzAs H xs).1 = (frzAs H xs).1
  | [], _ => rfl
  | x :: r, H => by simp only [frzAs, renL, ren_frzA, renL_frzAs ρ r]

theorem mergeH_nil (H Hs : Heap) : mergeH H [] Hs = H ++ Hs.map (renH (backN H.length [] Hs.length)) := by
  simp only [mergeH, List.length_nil, List.drop_zero]
  congr 1
  rw [List.map_congr_left (g := fun x => x.1) (fun x _ => by simp)]
  simp

/-- Contracts of callees that make objects of their own. -/
abbrev FSpec := List AV → (AOut → Heap → Prop) → Prop
def freshT (g : FSpec) : Spec := fun args H Q => g (frzAs H args).1 (fun out Hs => Q (outR (backN H.length [] Hs.length) out) ((frzAs H args).2 ++ Hs.map (renH (backN H.length [] Hs.length))))

structure DetF (φ : (AOut → Heap → Prop) → Prop) : Prop where
  det : ∀ K, φ K → ∃ o h, φ (fun x y => x = o ∧ y = h) ∧ K o h
  mono : ∀ K K', (∀ o h, K o h → K' o h) → φ K → φ K'
theorem DetF.no : DetF fun _ => False := ⟨fun _ h => h.elim, fun _ _ _ h => h.elim⟩
theorem DetF.at (o : AOut) (h : Heap) : DetF fun K => K o h := ⟨fun _ hh => ⟨o, h, ⟨rfl, rfl⟩, hh⟩, fun _ _ hk hh => hk _ _ hh⟩
theorem DetF.and {p : Prop} {φ : (AOut → Heap → Prop) → Prop} (h : DetF φ) : DetF fun K => p ∧ φ K := ⟨fun K hk => let ⟨o, y, h1, h2⟩ := h.det K hk.2; ⟨o, y, ⟨hk.1, h1⟩, h2⟩, fun K K' hk hh => ⟨hh.1, h.mono K K' hk hh.2⟩⟩
theorem DetF.ex {α : Type} {φ : α → (AOut → Heap → Prop) → Prop} (h : ∀ a, DetF (φ a)) : DetF fun K => ∃ a, φ a K := ⟨fun K ⟨a, hk⟩ => let ⟨o, y, h1, h2⟩ := (h a).det K hk; ⟨o, y, ⟨a, h1⟩, h2⟩, fun K K' hk ⟨a, hh⟩ => ⟨a, (h a).mono K K' hk hh⟩⟩
theorem DetF.cond {b : Bool} {φ ψ : (AOut → Heap → Prop) → Prop} (h1 : DetF φ) (h2 : DetF ψ) : DetF fun K => cond b (φ K) (ψ K) := by cases b; exact h2; exact h1

theorem frzAs_length : ∀ (xs : List AV) (H : Heap), (frzAs H xs).2.length = H.length := by
  have one : ∀ (H : Heap) x, (frz H x).2.length = H.length := fun H x => by
    cases x <;> first | rfl | (simp only [frz]; split <;> simp)
  have many : ∀ (xs : List AV) (H : Heap), (frzs H xs).2.length = H.length := fun xs => by
    induction xs with
    | nil => intro H; rfl
    | cons x r ih => intro H; simp only [frzs]; rw [ih, one]
  intro xs
  induction xs with
  | nil => intro H; rfl
  | cons x r ih =>
    intro H
    simp only [frzAs]
    rw [ih]
    cases x with
    | agg cs => simp only [frzA]; exact many cs H
    | _ => exact one H _

theorem freshT_good {f : FuncId} {g : FSpec} (hd : ∀ args, DetF (g args)) (h : ∀ args Q, g args Q → FOK P f args [] Q) : SGood P f (freshT g) where
  ok := fun args H Q hg => by
    refine frz_call (sub_call (ids := []) List.nodup_nil (fun b hb => absurd hb List.not_mem_nil) ?_)
    rw [renL_frzAs]
    refine (h _ _ hg).imp fun o Hs hq => ?_
    rw [mergeH_nil, frzAs_length]
    exact hq
  ang := fun args H K hg => by
    obtain ⟨o, y, h1, h2⟩ := (hd _).det _ hg
    exact ⟨_, _, (hd _).mono _ _ (fun x z hx => by obtain ⟨rfl, rfl⟩ := hx; exact ⟨rfl, rfl⟩) h1, h2⟩
  mono := fun args H K K' hk hg => (hd _).mono _ _ (fun o y ho => hk _ _ ho) hg

theorem body_fresh {T : Tab} (hT : TGood P T) (hm : P.follows .mixedOrders = true) {f : FuncId} {fn : Func} (hf : P.funcs[f]? = some fn) (hent : Enters P f) (N : Nat) {args : List AV} {Q : AOut → Heap → Prop}
    (h : abody P T 0 N fn args [] Q) : FOK P f args [] Q :=
  abody_sound hT.ok hT.ang hT.mono hm hf hent (N := N) (H := []) h

end Go.Abs

/-
An abstract machine over values as trees: how loops are proved.
-/
namespace Go.Abs
open Go

/-- A loop with an invariant and a measure; what comes behind a round is hidden. -/
theorem aloop_inv {step : KT → List AV → Heap → Prop} {gc : List AV → Heap → List AV × Heap} {K : KT} {σ : Type} (st : σ → List AV × Heap) (inv : σ → Prop) (μ : σ → Nat)
    (h : ∀ s, inv s → ∀ R : List AV → Heap → Prop, (∀ s', inv s' → μ s' < μ s → R (st s').1 (st s').2) →
      step (fun e a' H' => match e with
        | .normal => R (gc a' H').1 (gc a' H').2
        | e => K e a' H') (st s).1 (st s).2) :
    ∀ n s, inv s → μ s < n → aloop step gc K n (st s).1 (st s).2
  | 0, s, _, hm => absurd hm (Nat.not_lt_zero _)
  | n + 1, s, hi, hm => by
    unfold aloop
    exact h s hi (aloop step gc K n) (fun s' hi' hm' => aloop_inv st inv μ h n s' hi' (by omega))

theorem cond_intro {b : Bool} {X Y : Prop} (h1 : b = true → X) (h2 : b = false → Y) : cond b X Y := by cases b; exact h2 rfl; exact h1 rfl

theorem aloop_at {step : KT → List AV → Heap → Prop} {gc : List AV → Heap → List AV × Heap} {K : KT} {n : Nat} {a a' : List AV} {H H' : Heap} (ha : a = a') (hH : H = H')
    (h : aloop step gc K n a' H') : aloop step gc K n a H := by subst ha; subst hH; exact h

theorem R_at {R : List AV → Heap → Prop} {a a' : List AV} {H H' : Heap} (ha : a = a') (hH : H = H') (h : R a' H') : R a H := by subst ha; subst hH; exact h

/-- Temporaries of which all but a few are forgotten. -/
def sp : Nat → Nat → List (Nat × AV) → List AV
  | _, 0, _ => []
  | i, n + 1, l => match l with
    | [] => .any :: sp (i + 1) n []
    | (j, v) :: r => cond (Nat.beq i j) (v :: sp (i + 1) n r) (.any :: sp (i + 1) n ((j, v) :: r))

/-- Bytes as elements. -/
def bsA (l : List Int) : List (List AV) := l.map fun b => [.int .u8 b]

@[simp] theorem bsA_length (l : List Int) : (bsA l).length = l.length := by simp [bsA]
theorem bsA_append (l r : List Int) : bsA (l ++ r) = bsA l ++ bsA r := by simp [bsA]
theorem bsA_el {l : List Int} {el : List AV} (h : el ∈ bsA l) : el.length = 1 := by
  simp only [bsA, List.mem_map] at h
  obtain ⟨_, _, rfl⟩ := h
  rfl

theorem fits_at {ys ys' : List (List AV)} {sz bytes n : Nat} (h : ys = ys') (hf : FitsA ys' sz bytes n) : FitsA ys sz bytes n := by subst h; exact hf
theorem fits_one {el : List AV} {sz bytes n : Nat} (h : el.length = sz) (hb : (n + 1) * bytes ≤ 140737488355328) (hn : n + 1 ≤ 140737488355328) : FitsA [el] sz bytes n :=
  ⟨fun x hx => (by rw [List.mem_singleton] at hx; subst hx; exact h), hb, hn⟩
theorem fits_bs {l : List Int} {n : Nat} (h : n + l.length ≤ 140737488355328) : FitsA (bsA l) 1 1 n :=
  ⟨fun x hx => bsA_el hx, by simp; omega, by simp; omega⟩

end Go.Abs

/-
Plain laws of numbers and texts as bytes; no program.
-/
namespace Go.Abs
open Go

def encF : Nat → Int → List Int
  | 0, _ => []
  | k + 1, n => if n < 128 then [n] else (n % 128 + 128) :: encF k (n / 128)
/-- A number's bytes. -/
def encI (n : Int) : List Int := encF 6 n
def okI (n : Int) : Bool := decide (0 ≤ n) && decide (n ≤ 2147483647)

theorem encF_stable : ∀ (k : Nat) (n : Int), 0 ≤ n → n < 128 ^ (k + 1) → encF (k + 2) n = encF (k + 1) n
  | 0, n, h0, h => by
    have : n < 128 := by simpa using h
    simp [encF, this]
  | k + 1, n, h0, h => by
    show (if n < 128 then [n] else (n % 128 + 128) :: encF (k + 2) (n / 128)) = if n < 128 then [n] else (n % 128 + 128) :: encF (k + 1) (n / 128)
    by_cases hn : n < 128
    · simp [hn]
    · simp only [hn, if_false]
      rw [encF_stable k (n / 128) (by omega) (by rw [Int.pow_succ] at h; omega)]

theorem encI_small {n : Int} (h : n < 128) : encI n = [n] := by simp [encI, encF, h]
theorem encI_step {n : Int} (h : 128 ≤ n) (h2 : n < 34359738368) : encI n = (n % 128 + 128) :: encI (n / 128) := by
  have : ¬ n < 128 := by omega
  rw [encI, encF, if_neg this, encI, encF_stable 4 (n / 128) (by omega) (by omega)]

theorem encF_len : ∀ (k : Nat) (n : Int), (encF k n).length ≤ k
  | 0, _ => by simp [encF]
  | k + 1, n => by
    unfold encF
    split
    · simp
    · have := encF_len k (n / 128); simp; omega
theorem encI_len (n : Int) : (encI n).length ≤ 6 := encF_len 6 n
theorem encI_pos (n : Int) : 0 < (encI n).length := by
  unfold encI encF
  split <;> simp

/-! ### Words -/
set_option maxRecDepth 10000 in
theorem or128 (y : Int) (h0 : 0 ≤ y) (h1 : y < 256) : bits .or .u8 y 128 = y % 128 + 128 := by
  rw [u8_or y 128 h0 h1 (by decide) (by decide)]
  obtain ⟨m, rfl⟩ := Int.eq_ofNat_of_zero_le h0
  have hm : m < 256 := by omega
  have : ∀ m : Fin 256, (m.val ||| 128) = m.val % 128 + 128 := by decide
  have := this ⟨m, hm⟩
  simp only [Int.toNat_natCast] at *
  show ((m ||| 128 : Nat) : Int) = _
  rw [this]
  omega

theorem byte_or (n : Int) : bits .or .u8 (IntKind.u8.wrap n) 128 = n % 128 + 128 := by
  rw [IntKind.wrap_u8, or128 _ (by omega) (by omega)]
  omega

theorem fdiv128 (n : Int) : n.fdiv (2 ^ (min (7 : Int).toNat IntKind.i64.bits)) = n / 128 := by
  show n.fdiv 128 = n / 128
  rw [Int.fdiv_eq_ediv_of_nonneg _ (by decide)]

theorem i64_or_nat (a b : Nat) (ha : a < 9223372036854775808) (hb : b < 9223372036854775808) : bits .or .i64 (a : Int) (b : Int) = ((a ||| b : Nat) : Int) := by
  have hx : a ||| b < 2 ^ 63 := Nat.or_lt_two_pow (by omega) (by omega)
  have h1 : (BitVec.ofInt 64 (a : Int)).toNat = a := by
    rw [BitVec.ofInt_natCast, BitVec.toNat_ofNat]; exact Nat.mod_eq_of_lt (by omega)
  have h2 : (BitVec.ofInt 64 (b : Int)).toNat = b := by
    rw [BitVec.ofInt_natCast, BitVec.toNat_ofNat]; exact Nat.mod_eq_of_lt (by omega)
  show IntKind.i64.wrap ((BitVec.ofInt 64 (a : Int) ||| BitVec.ofInt 64 (b : Int)).toNat : Int) = _
  rw [BitVec.toNat_or, h1, h2, IntKind.wrap_i64]
  omega

theorem and127 (y : Int) (h0 : 0 ≤ y) (h1 : y < 256) : bits .and .u8 y 127 = y % 128 := by
  rw [u8_and y 127 h0 h1 (by decide) (by decide)]
  obtain ⟨m, rfl⟩ := Int.eq_ofNat_of_zero_le h0
  simp only [Int.toNat_natCast]
  show ((m &&& (2 ^ 7 - 1) : Nat) : Int) = _
  rw [Nat.and_two_pow_sub_one_eq_mod]
  omega

theorem or_disj (a x k : Nat) (h : a < 2 ^ k) : a ||| (x * 2 ^ k) = a + x * 2 ^ k := by
  rw [Nat.or_comm, Nat.mul_comm, ← Nat.two_pow_add_eq_or_of_lt h, Nat.add_comm]

theorem orStep (i : Nat) (hi : i < 5) (n c : Int) (h0 : 0 ≤ n) (hn : n < 128 ^ i) (c0 : 0 ≤ c) (c1 : c < 256) :
    bits .or .i64 n (IntKind.i64.wrap (IntKind.i64.wrap (bits .and .u8 c 127) * 2 ^ (min (IntKind.i64.wrap (7 * (i : Int))).toNat IntKind.i64.bits))) = n + (c % 128) * 128 ^ i := by
  rw [and127 c c0 c1]
  obtain ⟨a, rfl⟩ := Int.eq_ofNat_of_zero_le h0
  obtain ⟨x, hx⟩ := Int.eq_ofNat_of_zero_le (show 0 ≤ c % 128 by omega)
  rw [hx]
  have hx2 : x < 128 := by omega
  have e1 : IntKind.i64.wrap (x : Int) = x := by rw [IntKind.wrap_i64]; omega
  have e2 : IntKind.i64.wrap (7 * (i : Int)) = 7 * i := by rw [IntKind.wrap_i64]; omega
  rw [e1, e2]
  have e3 : min (7 * (i : Int)).toNat IntKind.i64.bits = 7 * i := by show min _ 64 = _; omega
  rw [e3]
  have e4 : (2 : Int) ^ (7 * i) = 128 ^ i := by rw [Int.pow_mul]; rfl
  have ha : a < 2 ^ (7 * i) := by
    have : (a : Int) < 2 ^ (7 * i) := by rw [e4]; exact hn
    exact_mod_cast this
  have hp : 2 ^ (7 * i) ≤ 2 ^ 28 := Nat.pow_le_pow_right (by omega) (by omega)
  have hm : x * 2 ^ (7 * i) ≤ 127 * 2 ^ 28 := Nat.mul_le_mul (by omega) hp
  have e5 : IntKind.i64.wrap ((x : Int) * 2 ^ (7 * i)) = ((x * 2 ^ (7 * i) : Nat) : Int) := by
    rw [show (x : Int) * 2 ^ (7 * i) = ((x * 2 ^ (7 * i) : Nat) : Int) by push_cast; rfl, IntKind.wrap_i64]
    omega
  rw [e5, i64_or_nat _ _ (by omega) (by omega), or_disj a x _ ha, ← e4]
  push_cast
  rfl

end Go.Abs

/-
octet.Int is what it comes to.
-/
namespace Go.Abs
open Go Go.Proofs

theorem mixedT : Tryd.prog.follows .mixedOrders = true := by kernel_rfl

def rowV (l : List (List AV)) : AV := match l with | [] => .zslice | _ => .row 0
def rowH (l : List (List AV)) : Heap := match l with | [] => [] | _ => [.row true 5 1 l]

def g84 : FSpec := fun args K => match args with
  | [.int .i64 n] => cond (okI n) (K (.ret (.tuple [.row 0, .int .i64 0])) [.row true 5 1 (bsA (encI n))]) (K (.ret (.tuple [.zslice, .int .i64 14])) [])
  | _ => False

theorem g84_det (args : List AV) : DetF (g84 args) := by
  unfold g84
  repeat' (first | exact DetF.no | exact DetF.at _ _ | refine DetF.and ?_ | refine DetF.ex fun _ => ?_ | refine DetF.cond ?_ ?_ | split)

set_option maxRecDepth 100000 in
set_option maxHeartbeats 2000000 in
theorem f84_ok (n : Int) (T : Tab) (Q : AOut → Heap → Prop) (hQ : g84 [.int .i64 n] Q) (N : Nat) (hN : n.toNat < N) :
    abody Tryd.prog T 0 N Tryd.f77 [.int .i64 n] [] Q := by
  unfold g84 at hQ
  dsimp only at hQ
  conv => whnf
  split
  · rename_i h1; have h1 : n < 0 := of_decide_eq_true h1
    rw [show okI n = false by simp [okI]; omega] at hQ
    refine Eq.mp ?_ hQ
    kernel_rfl
  rename_i h1; have h1 : ¬ n < 0 := of_decide_eq_false h1
  conv => whnf
  split
  · rename_i h2; have h2 : n > 2147483647 := of_decide_eq_true h2
    rw [show okI n = false by simp [okI]; omega] at hQ
    refine Eq.mp ?_ hQ
    kernel_rfl
  rename_i h2; have h2 : ¬ n > 2147483647 := of_decide_eq_false h2
  rw [show okI n = true by simp [okI]; omega] at hQ
  dsimp only [cond_true] at hQ
  conv => whnf
  refine aloop_at ?_ ?_ (aloop_inv (σ := Int × List (List AV)) (fun s => ([.int .i64 s.1, .any, .any, .any, rowV s.2, .any, .any, .any, .any, .any, .any, .any, .any, .any, .any, .any, .any, .any, .any, .any, .any, .any, .any, .any, .any, .any], rowH s.2))
    (fun s => 0 ≤ s.1 ∧ s.1 < 2147483648 ∧ ∃ pre : List Int, s.2 = bsA pre ∧ encI n = pre ++ encI s.1 ∧ pre.length ≤ 6) (fun s => s.1.toNat) ?_ N (n, []) ⟨by omega, by omega, [], rfl, rfl, by simp⟩ hN)
  · kernel_rfl
  · kernel_rfl
  clear hN h1 h2
  rintro ⟨m, acc⟩ ⟨m1, m2, pre, p1, p2, p3⟩ R hR
  dsimp only at m1 m2 p1 p2 p3
  subst p1
  have hlen := encI_len n
  have hstep : 128 ≤ m → encI n = (pre ++ [m % 128 + 128]) ++ encI (m / 128) := fun h => by rw [p2, encI_step h (by omega)]; simp
  have hlen2 : pre.length + (encI m).length ≤ 6 := by have := congrArg List.length p2; simp only [List.length_append] at this; omega
  have hpos := encI_pos m
  rcases pre with _ | ⟨x, xs⟩
  all_goals
    conv => whnf
    split
  · rename_i h3; have h3 : m ≥ 128 := of_decide_eq_true h3
    conv => whnf
    refine ⟨Eq.mp (α := FitsA [[.int .u8 (bits .or .u8 (IntKind.u8.wrap m) 128)]] 1 1 (bsA []).length) (by kernel_rfl) (fits_one rfl (by decide) (by decide)), ?_⟩
    conv => whnf
    refine R_at (a' := [.int .i64 (m / 128), .any, .any, .any, rowV (bsA [] ++ [[.int .u8 (m % 128 + 128)]]), .any, .any, .any, .any, .any, .any, .any, .any, .any, .any, .any, .any, .any, .any, .any, .any, .any, .any, .any, .any, .any]) (H' := rowH (bsA [] ++ [[.int .u8 (m % 128 + 128)]])) ?_ ?_ (hR (m / 128, bsA [] ++ [[.int .u8 (m % 128 + 128)]]) ⟨by dsimp only; omega, by dsimp only; omega, [] ++ [m % 128 + 128], by simp [bsA], hstep h3, by have := encI_pos (m / 128); have := congrArg List.length (encI_step h3 (by omega)); simp only [List.length_cons, List.length_append, List.length_nil] at *; omega⟩ (by dsimp only; omega))
    · rw [← fdiv128, ← byte_or]; kernel_rfl
    · rw [← byte_or]; kernel_rfl
  · rename_i h3; have h3 : ¬ m ≥ 128 := of_decide_eq_false h3
    conv => whnf
    refine ⟨Eq.mp (α := FitsA [[.int .u8 (IntKind.u8.wrap m)]] 1 1 (bsA []).length) (by kernel_rfl) (fits_one rfl (by decide) (by decide)), ?_⟩
    have he : encI n = [] ++ [IntKind.u8.wrap m] := by rw [p2, encI_small (by omega), IntKind.wrap_u8, Int.emod_eq_of_lt m1 (by omega)]
    rw [he, bsA_append] at hQ
    refine Eq.mp ?_ hQ
    kernel_rfl
  · rename_i h3; have h3 : m ≥ 128 := of_decide_eq_true h3
    conv => whnf
    refine ⟨Eq.mp (α := FitsA [[.int .u8 (bits .or .u8 (IntKind.u8.wrap m) 128)]] 1 1 (bsA (x :: xs)).length) (by kernel_rfl) (fits_one rfl (by simp only [bsA_length, List.length_cons] at *; omega) (by simp only [bsA_length, List.length_cons] at *; omega)), ?_⟩
    conv => whnf
    refine R_at (a' := [.int .i64 (m / 128), .any, .any, .any, rowV (bsA (x :: xs) ++ [[.int .u8 (m % 128 + 128)]]), .any, .any, .any, .any, .any, .any, .any, .any, .any, .any, .any, .any, .any, .any, .any, .any, .any, .any, .any, .any, .any]) (H' := rowH (bsA (x :: xs) ++ [[.int .u8 (m % 128 + 128)]])) ?_ ?_ (hR (m / 128, bsA (x :: xs) ++ [[.int .u8 (m % 128 + 128)]]) ⟨by dsimp only; omega, by dsimp only; omega, (x :: xs) ++ [m % 128 + 128], by simp [bsA], hstep h3, by have := encI_pos (m / 128); have := congrArg List.length (encI_step h3 (by omega)); simp only [List.length_cons, List.length_append, List.length_nil] at *; omega⟩ (by dsimp only; omega))
    · rw [← fdiv128, ← byte_or]; kernel_rfl
    · rw [← byte_or]; kernel_rfl
  · rename_i h3; have h3 : ¬ m ≥ 128 := of_decide_eq_false h3
    conv => whnf
    refine ⟨Eq.mp (α := FitsA [[.int .u8 (IntKind.u8.wrap m)]] 1 1 (bsA (x :: xs)).length) (by kernel_rfl) (fits_one rfl (by simp only [bsA_length, List.length_cons] at *; omega) (by simp only [bsA_length, List.length_cons] at *; omega)), ?_⟩
    have he : encI n = (x :: xs) ++ [IntKind.u8.wrap m] := by rw [p2, encI_small (by omega), IntKind.wrap_u8, Int.emod_eq_of_lt m1 (by omega)]
    rw [he, bsA_append] at hQ
    refine Eq.mp ?_ hQ
    kernel_rfl
theorem s84 {T : Tab} (hT : TGood Tryd.prog T) : SGood Tryd.prog 77 (freshT g84) := freshT_good g84_det fun args Q h => by
  have h0 := h
  unfold g84 at h
  split at h
  · exact body_fresh hT mixedT Tryd.func77 (entersOf Tryd.func77 (by kernel_rfl) rfl) _ (f84_ok _ T Q h0 _ (Nat.lt_succ_self _))
  · exact h.elim

end Go.Abs

/-
Equality of texts, the program's and the document's, is what it comes to.
-/
namespace Go.Abs
open Go Go.Proofs

def okB (l : List Int) : Prop := ∀ b ∈ l, 0 ≤ b ∧ b < 256
def baOf (l : List Int) : ByteArray := ⟨(l.map fun b => UInt8.ofNat b.toNat).toArray⟩
theorem baOf_bytes {l : List Int} (h : okB l) : bytesA (baOf l) = bsA l := by
  simp only [bytesA, baOf, bsA, List.map_map]
  refine List.map_congr_left fun b hb => ?_
  obtain ⟨h0, h1⟩ := h b hb
  simp only [Function.comp]
  congr 2
  rw [UInt8.toNat_ofNat']
  omega
theorem baOf_inj {l r : List Int} (hl : okB l) (hr : okB r) : ((baOf l).toList == (baOf r).toList) = decide (l = r) := by
  have h1 : ∀ s : ByteArray, s.toList = s.data.toList := fun s => by
    exact ByteArray.toList_eq s
  rw [h1, h1]
  have inj : ∀ l r : List Int, okB l → okB r → (baOf l).data.toList = (baOf r).data.toList → l = r := fun l r hl hr h => by
    have := congrArg (fun x : List UInt8 => x.map fun b => ([.int .u8 b.toNat] : List AV)) h
    have e1 := baOf_bytes hl
    have e2 := baOf_bytes hr
    simp only [bytesA] at e1 e2
    rw [e1, e2] at this
    have hi : Function.Injective fun b : Int => ([.int .u8 b] : List AV) := fun a b h => by simpa using h
    exact List.map_inj_right (fun a b h => hi h) |>.1 this
  by_cases h : l = r
  · subst h; simp
  · have : ¬ (baOf l).data.toList = (baOf r).data.toList := fun e => h (inj l r hl hr e)
    rw [decide_eq_false h]
    exact beq_eq_false_iff_ne.2 this

def g18 : GSpec := fun args K => match args with
  | [.slice es, .slice fs] => ∃ l r : List Int, es = bsA l ∧ fs = bsA r ∧ okB l ∧ okB r ∧ K (.ret (.bool (decide (l = r))))
  | _ => False
theorem g18_det (args : List AV) : Det (g18 args) := by
  unfold g18
  repeat' (first | exact Det.no | exact Det.at _ | refine Det.and ?_ | refine Det.ex fun _ => ?_ | refine Det.cond ?_ ?_ | split)
theorem g18_flat (args : List AV) (o : AOut) (h : g18 args (· = o)) : flatO o = true := by
  unfold g18 at h
  split at h
  · obtain ⟨_, _, _, _, _, _, rfl⟩ := h; rfl
  · exact h.elim

set_option maxRecDepth 100000 in
set_option maxHeartbeats 2000000 in
theorem f18_ok (l r : List Int) (hl : okB l) (hr : okB r) (T : Tab) (Q : AOut → Prop) (hQ : Q (.ret (.bool (decide (l = r))))) (N : Nat) :
    abody Tryd.prog T 0 N Tryd.f26 [.slice (bsA l), .slice (bsA r)] [] (fun out Hs => Q (frzO Hs out)) := by
  conv => whnf
  refine ⟨baOf l, (baOf_bytes hl).symm, ?_⟩
  conv => whnf
  refine ⟨baOf r, (baOf_bytes hr).symm, ?_⟩
  conv => whnf
  rw [← baOf_inj hl hr] at hQ
  refine Eq.mp ?_ hQ
  kernel_rfl

set_option maxRecDepth 100000 in
set_option maxHeartbeats 2000000 in
theorem f71_ok (l r : List Int) (hl : okB l) (hr : okB r) (T : Tab) (Q : AOut → Prop) (hQ : Q (.ret (.bool (decide (l = r))))) (N : Nat) :
    abody Tryd.prog T 0 N Tryd.f55 [.slice (bsA l), .slice (bsA r)] [] (fun out Hs => Q (frzO Hs out)) := by
  conv => whnf
  refine ⟨baOf l, (baOf_bytes hl).symm, ?_⟩
  conv => whnf
  refine ⟨baOf r, (baOf_bytes hr).symm, ?_⟩
  conv => whnf
  rw [← baOf_inj hl hr] at hQ
  refine Eq.mp ?_ hQ
  kernel_rfl

set_option maxRecDepth 100000 in
theorem s18 {T : Tab} (hT : TGood Tryd.prog T) : SGood Tryd.prog 26 (flatT g18) := flatT_good g18_det g18_flat fun args Q h => by
  unfold g18 at h
  split at h
  · obtain ⟨l, r, rfl, rfl, hl, hr, hQ⟩ := h
    exact body_pure hT mixedT Tryd.func26 (entersOf Tryd.func26 (by kernel_rfl) rfl) 0 (f18_ok l r hl hr T Q hQ 0)
  · exact h.elim
set_option maxRecDepth 100000 in
theorem s71 {T : Tab} (hT : TGood Tryd.prog T) : SGood Tryd.prog 55 (flatT g18) := flatT_good g18_det g18_flat fun args Q h => by
  unfold g18 at h
  split at h
  · obtain ⟨l, r, rfl, rfl, hl, hr, hQ⟩ := h
    exact body_pure hT mixedT Tryd.func55 (entersOf Tryd.func55 (by kernel_rfl) rfl) 0 (f71_ok l r hl hr T Q hQ 0)
  · exact h.elim

end Go.Abs

/-
slices.Clone of bytes is what it comes to.
-/
namespace Go.Abs
open Go Go.Proofs

def g83 : GSpec := fun args K => match args with
  | [.slice es] => ∃ l : List Int, es = bsA l ∧ l.length ≤ 1099511627776 ∧ K (.ret (.slice (bsA l)))
  | _ => False
theorem g83_det (args : List AV) : Det (g83 args) := by
  unfold g83
  repeat' (first | exact Det.no | exact Det.at _ | refine Det.and ?_ | refine Det.ex fun _ => ?_ | refine Det.cond ?_ ?_ | split)

set_option maxRecDepth 100000 in
set_option maxHeartbeats 4000000 in
theorem f83_ok (l : List Int) (hl : l.length ≤ 1099511627776) (T : Tab) (Q : AOut → Prop) (hQ : Q (.ret (.slice (bsA l)))) (N : Nat) :
    abody Tryd.prog T 0 N Tryd.f46 [.slice (bsA l)] [] (fun out Hs => Q (frzO Hs out)) := by
  cases l with
  | nil =>
    conv => whnf
    intro b
    cases b
    · conv => whnf
      refine ⟨fits_bs (l := []) (by simp), ?_⟩
      refine Eq.mp ?_ hQ
      kernel_rfl
    · refine Eq.mp ?_ hQ
      kernel_rfl
  | cons x xs =>
    conv => whnf
    refine ⟨fits_bs (l := x :: xs) (by omega), ?_⟩
    refine Eq.mp ?_ hQ
    kernel_rfl

set_option maxRecDepth 100000 in
theorem s83 {T : Tab} (hT : TGood Tryd.prog T) : SGood Tryd.prog 46 (pureT g83) := pureT_good g83_det fun args Q h => by
  unfold g83 at h
  split at h
  · obtain ⟨l, rfl, hl, hQ⟩ := h
    exact body_pure hT mixedT Tryd.func46 (entersOf Tryd.func46 (by kernel_rfl) rfl) 0 (f83_ok l hl T Q hQ 0)
  · exact h.elim

end Go.Abs

/-
catenaryref05.CopyReq is what it comes to.
-/
namespace Go.Abs
open Go Go.Proofs

/-- Requests, votes. -/
structure RqV where
  client : Int
  stamp : Int
  op : List Int
  sig : List Int
structure VtV where
  signer : Int
  sig : List Int
def rqC (r : RqV) : List AV := [.int .i64 r.client, .int .i64 r.stamp, .slice (bsA r.op), .slice (bsA r.sig)]
def vtC (v : VtV) : List AV := [.int .i64 v.signer, .slice (bsA v.sig)]
def okT (l : List Int) : Prop := okB l ∧ l.length ≤ 2147483647
def okR (r : RqV) : Prop := okT r.op ∧ okT r.sig

def g23 : GSpec := fun args K => match args with
  | [.agg cs] => ∃ r : RqV, cs = rqC r ∧ okR r ∧ K (.ret (.agg (rqC r)))
  | _ => False
theorem g23_det (args : List AV) : Det (g23 args) := by
  unfold g23
  repeat' (first | exact Det.no | exact Det.at _ | refine Det.and ?_ | refine Det.ex fun _ => ?_ | refine Det.cond ?_ ?_ | split)

set_option maxRecDepth 100000 in
set_option maxHeartbeats 4000000 in
theorem f23_ok (r : RqV) (hr : okR r) (T : Tab) (Q : AOut → Prop) (hQ : Q (.ret (.agg (rqC r)))) (N : Nat) :
    abody Tryd.prog T 0 N Tryd.f20 [.agg (rqC r)] [] (fun out Hs => Q (frzO Hs out)) := by
  conv => whnf
  refine ⟨fits_bs (by have := hr.1.2; omega), ?_⟩
  conv => whnf
  refine ⟨fits_bs (by have := hr.2.2; omega), ?_⟩
  conv => whnf
  refine Eq.mp ?_ hQ
  kernel_rfl

set_option maxRecDepth 100000 in
theorem s23 {T : Tab} (hT : TGood Tryd.prog T) : SGood Tryd.prog 20 (pureT g23) := pureT_good g23_det fun args Q h => by
  unfold g23 at h
  split at h
  · obtain ⟨r, rfl, hr, hQ⟩ := h
    exact body_pure hT mixedT Tryd.func20 (entersOf Tryd.func20 (by kernel_rfl) rfl) 0 (f23_ok r hr T Q hQ 0)
  · exact h.elim

end Go.Abs

/-
catenaryref05.SameReq is what it comes to.
-/
namespace Go.Abs
open Go Go.Proofs

def rqEq (a b : RqV) : Bool := (a.client == b.client) && (a.stamp == b.stamp) && decide (a.op = b.op) && decide (a.sig = b.sig)
def g25 : GSpec := fun args K => match args with
  | [.agg cs, .agg ds] => ∃ a b : RqV, cs = rqC a ∧ ds = rqC b ∧ okR a ∧ okR b ∧ K (.ret (.bool (rqEq a b)))
  | _ => False
theorem g25_det (args : List AV) : Det (g25 args) := by
  unfold g25
  repeat' (first | exact Det.no | exact Det.at _ | refine Det.and ?_ | refine Det.ex fun _ => ?_ | refine Det.cond ?_ ?_ | split)
theorem g25_flat (args : List AV) (o : AOut) (h : g25 args (· = o)) : flatO o = true := by
  unfold g25 at h
  split at h
  · obtain ⟨_, _, _, _, _, _, rfl⟩ := h; rfl
  · exact h.elim

set_option maxRecDepth 100000 in
set_option maxHeartbeats 4000000 in
theorem f25_ok (a b : RqV) (ha : okR a) (hb : okR b) (T : Tab) (Q : AOut → Prop) (hQ : Q (.ret (.bool (rqEq a b)))) (N : Nat) :
    abody Tryd.prog (ext T 26 (flatT g18)) 0 N Tryd.f17 [.agg (rqC a), .agg (rqC b)] [] (fun out Hs => Q (frzO Hs out)) := by
  conv => whnf
  split
  rotate_left
  · rename_i h1; have h1 : (a.client == b.client) = false := h1
    rw [show rqEq a b = false by simp [rqEq, h1]] at hQ
    refine Eq.mp ?_ hQ
    kernel_rfl
  rename_i h1; have h1 : (a.client == b.client) = true := h1
  conv => whnf
  split
  rotate_left
  · rename_i h2; have h2 : (a.stamp == b.stamp) = false := h2
    rw [show rqEq a b = false by simp [rqEq, h2]] at hQ
    refine Eq.mp ?_ hQ
    kernel_rfl
  rename_i h2; have h2 : (a.stamp == b.stamp) = true := h2
  conv => whnf
  refine ⟨a.op, b.op, rfl, rfl, ha.1.1, hb.1.1, ?_⟩
  conv => whnf
  split
  rotate_left
  · rename_i h3; have h3 : decide (a.op = b.op) = false := h3
    rw [show rqEq a b = false by simp [rqEq, h3]] at hQ
    refine Eq.mp ?_ hQ
    kernel_rfl
  rename_i h3; have h3 : decide (a.op = b.op) = true := h3
  conv => whnf
  refine ⟨a.sig, b.sig, rfl, rfl, ha.2.1, hb.2.1, ?_⟩
  conv => whnf
  rw [show rqEq a b = decide (a.sig = b.sig) by simp only [rqEq, h1, h2, h3, Bool.true_and]] at hQ
  refine Eq.mp ?_ hQ
  kernel_rfl

set_option maxRecDepth 100000 in
theorem s25 {T : Tab} (hT : TGood Tryd.prog T) : SGood Tryd.prog 17 (flatT g25) := flatT_good g25_det g25_flat fun args Q h => by
  unfold g25 at h
  split at h
  · obtain ⟨a, b, rfl, rfl, ha, hb, hQ⟩ := h
    exact body_pure (ext_good hT (s18 hT)) mixedT Tryd.func17 (entersOf Tryd.func17 (by kernel_rfl) rfl) 0 (f25_ok a b ha hb T Q hQ 0)
  · exact h.elim

end Go.Abs

