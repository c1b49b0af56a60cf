/-
An abstract machine over values as trees: its code is sound.
-/
import Derived.Test.YtmainkiflkagjaaGreatDoorAbw4
import Derived.Test.YtmainkiflkagjaaGreatDoorAbw1
import Derived.LoopN
namespace Go.Abs
open Go
variable {P : Program}

/-! ### Numbered anew -/
theorem renL_get (ρ : Nat → Option Nat) : ∀ (l : List AV) (i : Nat), (renL ρ l)[i]? = (l[i]?).map (ren ρ)
  | [], i => by simp [renL]
  | v :: r, 0 => by simp [renL]
  | v :: r, i + 1 => by simp only [renL, List.getElem?_cons_succ]; exact renL_get ρ r i
theorem renL_length (ρ : Nat → Option Nat) : ∀ l : List AV, (renL ρ l).length = l.length
  | [] => rfl
  | v :: r => by simp [renL, renL_length ρ r]

theorem RV.ren {w w' : World} {M M' : Mut} {n n' : Nat} {G G' : Gh} {ρ : Nat → Option Nat} {v : Value} {a : AV} (hv : RV w M n G v a)
    (hcell : ∀ k i v, w.cell? ⟨k, i, none⟩ = some v → ¬ M k i → w'.cell? ⟨k, i, none⟩ = some v ∧ ¬ M' k i)
    (hρ : ∀ b b', ρ b = some b' → b' < n' ∧ ∀ l, G' b' = some l → G b = some l) : RV w' M' n' G' v (Abs.ren ρ a) := by
  induction hv with
  | any => exact .any ..
  | bool => exact .bool ..
  | int => exact .int ..
  | str => exact .str ..
  | nilptr => exact .nilptr ..
  | nilmap => exact .nilmap ..
  | nilfunc => exact .nilfunc ..
  | nilIface => exact .nilIface ..
  | zslice => exact .zslice ..
  | slice0 => exact .slice0 ..
  | slice n G k off cap sz es f hsz hc hr hcap _ =>
    exact .slice _ _ k off cap sz es f hsz (fun i el j x h1 h2 => by obtain ⟨c1, c2, c3⟩ := hc i el j x h1 h2; exact ⟨(hcell _ _ _ c1 c2).1, (hcell _ _ _ c1 c2).2, c3⟩)
      (fun i el j x h1 h2 => (hr i el j x h1 h2).mono hcell (Nat.le_refl _) (fun _ _ _ h => h)) hcap
  | eptr n G k off cs f hc hr _ =>
    exact .eptr _ _ k off cs f (fun j x h1 => by obtain ⟨c1, c2, c3⟩ := hc j x h1; exact ⟨(hcell _ _ _ c1 c2).1, (hcell _ _ _ c1 c2).2, c3⟩) (fun j x h1 => (hr j x h1).mono hcell (Nat.le_refl _) (fun _ _ _ h => h))
  | ptr n G v b o hb h1 h =>
    rw [Abs.ren]
    split
    · rename_i b' hb'
      exact .ptr _ _ _ _ _ (hρ b b' hb').1 h1 (fun l hl => h l ((hρ b b' hb').2 l hl))
    · exact .any ..
  | map n G v b hb h1 h =>
    rw [Abs.ren]
    split
    · rename_i b' hb'
      exact .map _ _ _ _ (hρ b b' hb').1 h1 (fun l hl => h l ((hρ b b' hb').2 l hl))
    · exact .any ..
  | rptr n G v b i c hb h1 h =>
    rw [Abs.ren]
    split
    · rename_i b' hb'
      exact .rptr _ _ _ _ _ _ (hρ b b' hb').1 h1 (fun l hl => h l ((hρ b b' hb').2 l hl))
    · exact .any ..
  | row n G v b hb h1 h =>
    rw [Abs.ren]
    split
    · rename_i b' hb'
      exact .row _ _ _ _ (hρ b b' hb').1 h1 (fun l hl => h l ((hρ b b' hb').2 l hl))
    · exact .any ..
  | srow n G v b o m hb h1 h =>
    rw [Abs.ren]
    split
    · rename_i b' hb'
      exact .srow _ _ _ _ _ _ (hρ b b' hb').1 h1 (fun l hl => h l ((hρ b b' hb').2 l hl))
    · exact .any ..
  | vsl n G v b o m hb h1 h =>
    rw [Abs.ren]
    split
    · rename_i b' hb'
      exact .vsl _ _ _ _ _ _ (hρ b b' hb').1 h1 (fun l hl => h l ((hρ b b' hb').2 l hl))
    · exact .any ..
  | func n G fn f c f' c' hf hcl hfr hcr ihf ihc =>
    rw [Abs.ren]
    refine .func _ _ _ _ _ _ _ (by rw [renL_length]; exact hf) (by rw [renL_length]; exact hcl) (fun i v x e1 e2 => ?_) (fun i v x e1 e2 => ?_)
    · rw [renL_get, Option.map_eq_some_iff] at e2; obtain ⟨y, hy, rfl⟩ := e2; exact ihf i v y e1 hy hρ
    · rw [renL_get, Option.map_eq_some_iff] at e2; obtain ⟨y, hy, rfl⟩ := e2; exact ihc i v y e1 hy hρ
  | iface n G t v x h ih => rw [Abs.ren]; exact .iface _ _ _ _ _ (ih hρ)
  | agg n G cs asl hl h ih =>
    rw [Abs.ren]
    refine .agg _ _ _ _ (by rw [renL_length]; exact hl) (fun i v x e1 e2 => ?_)
    rw [renL_get, Option.map_eq_some_iff] at e2; obtain ⟨y, hy, rfl⟩ := e2; exact ih i v y e1 hy hρ
  | tuple n G cs asl hl h ih =>
    rw [Abs.ren]
    refine .tuple _ _ _ _ (by rw [renL_length]; exact hl) (fun i v x e1 e2 => ?_)
    rw [renL_get, Option.map_eq_some_iff] at e2; obtain ⟨y, hy, rfl⟩ := e2; exact ih i v y e1 hy hρ

theorem reach_ok (H : Heap) : ∀ (n : Nat) (work seen : List Nat), seen.Nodup → (reach H n work seen).Nodup ∧ ∃ t, reach H n work seen = seen ++ t
  | 0, _, seen, h => by simp only [reach]; exact ⟨h, [], by simp⟩
  | n + 1, [], seen, h => by simp only [reach]; exact ⟨h, [], by simp⟩
  | n + 1, b :: r, seen, h => by
    simp only [reach]
    split
    · exact reach_ok H n r seen h
    · rename_i hb
      split
      · split
        · exact reach_ok H n r seen h
        · have hnd : (seen ++ [b]).Nodup := by
            rw [List.nodup_append]
            refine ⟨h, by simp, fun x hx y hy e => ?_⟩
            simp only [List.mem_singleton] at hy
            subst hy; subst e
            exact hb (by simpa using hx)
          obtain ⟨h1, t, h2⟩ := reach_ok H n (hrefs _ ++ r) (seen ++ [b]) hnd
          exact ⟨h1, [b] ++ t, by rw [h2, List.append_assoc]⟩
      · exact reach_ok H n r seen h

theorem idx_get {ids : List Nat} {b i : Nat} (h : ids.idxOf? b = some i) : ids[i]? = some b := by
  rw [List.idxOf?, List.findIdx?_eq_some_iff_getElem] at h
  obtain ⟨hlt, h1, _⟩ := h
  rw [List.getElem?_eq_getElem hlt]
  congr 1
  simpa using h1

theorem keepOnly_get (keep : List Nat) : ∀ (l : List AV) (k i : Nat), (keepOnly keep k l)[i]? = (l[i]?).map fun x => if keep.contains (k + i) then x else .any
  | [], k, i => by simp [keepOnly]
  | v :: r, k, 0 => by simp [keepOnly]
  | v :: r, k, i + 1 => by
    simp only [keepOnly, List.getElem?_cons_succ]
    rw [keepOnly_get keep r (k + 1) i, show k + 1 + i = k + (i + 1) by omega]
theorem keepOnly_length (keep : List Nat) : ∀ (l : List AV) (k : Nat), (keepOnly keep k l).length = l.length
  | [], k => rfl
  | v :: r, k => by simp [keepOnly, keepOnly_length keep r]

theorem agc_sound {Mx : Mut} {G : Gh} {H : Heap} {w : World} {t : Array Value} {a : List AV} {pin : Nat} (keep : List Nat) (hp : pin ≤ H.length) (hs : Sim Mx G H w) (ht : TV w (MM Mx G H) H.length G t a) :
    ∃ G', Sim Mx G' (agc pin keep a H).2 w ∧ TV w (MM Mx G' (agc pin keep a H).2) (agc pin keep a H).2.length G' t (agc pin keep a H).1 ∧
      Step pin Mx G H w G' (agc pin keep a H).2 w ∧ pin ≤ (agc pin keep a H).2.length := by
  have hids := reach_ok H (2 * (H.length + (refsL (keepOnly keep 0 a)).length + ((H.map hrefs).map List.length).sum) + 2 * pin + 2) (((H.take pin).map hrefs).flatten ++ refsL (keepOnly keep 0 a)) (List.range pin) List.nodup_range
  have hagc : agc pin keep a H = (renL ((gcIds pin (keepOnly keep 0 a) H).idxOf? ·) (keepOnly keep 0 a), (gcIds pin (keepOnly keep 0 a) H).map fun b => renH ((gcIds pin (keepOnly keep 0 a) H).idxOf? ·) (H.getD b .dead)) := rfl
  rw [hagc]
  simp only
  change (gcIds pin (keepOnly keep 0 a) H).Nodup ∧ ∃ t, gcIds pin (keepOnly keep 0 a) H = List.range pin ++ t at hids
  generalize gcIds pin (keepOnly keep 0 a) H = ids at hids ⊢
  obtain ⟨hnd, tl, htl⟩ := hids
  let G' : Gh := fun i => (ids[i]?).bind G
  let H' : Heap := ids.map fun b => renH (ids.idxOf? ·) (H.getD b .dead)
  have hlen : H'.length = ids.length := by simp [H']
  have hG' : ∀ i l, G' i = some l → ∃ b, ids[i]? = some b ∧ G b = some l := fun i l h => by
    simp only [G', Option.bind_eq_some_iff] at h
    exact h
  have hρ : ∀ b b', ids.idxOf? b = some b' → b' < H'.length ∧ ∀ l, G' b' = some l → G b = some l := fun b b' h => by
    have hb := idx_get h
    refine ⟨by rw [hlen]; exact (List.getElem?_eq_some_iff.1 hb).1, fun l hl => ?_⟩
    obtain ⟨b1, h1, h2⟩ := hG' b' l hl
    rw [hb] at h1
    cases h1
    exact h2
  have hobj : ∀ (i : Nat) o', H'[i]? = some o' → ∃ b, ids[i]? = some b ∧ o' = renH (ids.idxOf? ·) (H.getD b .dead) := fun i o' h => by
    simp only [H', List.getElem?_map, Option.map_eq_some_iff] at h
    obtain ⟨b, h1, h2⟩ := h
    exact ⟨b, h1, h2.symm⟩
  have hmutr : ∀ o i, (renH (ids.idxOf? ·) o).mut i → o.mut i := fun o i h => by cases o <;> exact h
  have hmm : ∀ k i, ¬ MM Mx G H k i → ¬ MM Mx G' H' k i := by
    rintro k i hm (hx | ⟨b', l, o', hg, hH1, hbk, hmu⟩)
    · exact hm (.inl hx)
    · obtain ⟨b, h1, h2⟩ := hG' b' l hg
      obtain ⟨b2, h3, rfl⟩ := hobj b' o' hH1
      rw [h1] at h3
      cases h3
      have hlt := hs.dom b l h2
      refine hm (.inr ⟨b, l, H[b], h2, List.getElem?_eq_getElem hlt, hbk, ?_⟩)
      have := hmutr _ _ hmu
      rwa [List.getD_eq_getElem?_getD, List.getElem?_eq_getElem hlt] at this
  have hcell : ∀ k i v, w.cell? ⟨k, i, none⟩ = some v → ¬ MM Mx G H k i → w.cell? ⟨k, i, none⟩ = some v ∧ ¬ MM Mx G' H' k i := fun k i v h1 h2 => ⟨h1, hmm k i h2⟩
  have hpin : ∀ i, i < pin → ids[i]? = some i := fun i hi => by
    rw [htl, List.getElem?_append_left (by simpa using hi), List.getElem?_range hi]
  refine ⟨G', ⟨fun i l h => ?_, fun i o' h => ?_, fun i j l1 l2 k h1 h2 k1 k2 => ?_, fun i l k q h hk => ?_, hs.lt⟩, ⟨by rw [renL_length, keepOnly_length]; exact ht.1, fun i v x h1 h2 => ?_⟩, ⟨rfl, rfl, rfl, Nat.le_refl _, ⟨hp, ?_⟩, fun _ _ _ => rfl, hcell, fun b l hb h => ?_, fun b l k h hk => ?_⟩, ?_⟩
  · obtain ⟨b, h1, _⟩ := hG' i l h
    show i < H'.length
    rw [hlen]
    exact (List.getElem?_eq_some_iff.1 h1).1
  · obtain ⟨b, h1, rfl⟩ := hobj i o' h
    have hgi : G' i = G b := by simp [G', h1]
    rw [hgi]
    show ObjR w (MM Mx G' H') H'.length G' (G b) _
    by_cases hlt : b < H.length
    · rw [List.getD_eq_getElem?_getD, List.getElem?_eq_getElem hlt]
      have h0 := hs.obj b H[b] (List.getElem?_eq_getElem hlt)
      simp only [Option.getD_some]
      cases ho : H[b] with
      | dead => rw [ho] at h0; exact h0
      | var cs =>
        rw [ho] at h0
        obtain ⟨k, cv, ty, e1, e2, e3, e4⟩ := h0
        refine ⟨k, cv, ty, e1, e2, by rw [renL_length]; exact e3, fun q v x g1 g2 => ?_⟩
        rw [renL_get, Option.map_eq_some_iff] at g2
        obtain ⟨y, hy, rfl⟩ := g2
        exact ⟨(e4 q v y g1 hy).1, (e4 q v y g1 hy).2.ren hcell hρ⟩
      | row wr e sz es =>
        rw [ho] at h0
        exact (show ObjR w (MM Mx G H) H.length G (G b) (.row wr e sz es) from h0) |> fun h0 => by
          obtain ⟨a1, a2, a3⟩ := h0
          refine ⟨a1, a2, ?_⟩
          rcases a3 with a3 | ⟨g, cap, cur, b1, b2, b3, b4, b5, b6, b7⟩
          · exact .inl a3
          · exact .inr ⟨g, cap, cur, b1, b2, b3, b4, b5, b6, fun q el j x u g1 g2 g3 => (b7 q el j x u g1 g2 g3).mono hcell (Nat.le_refl _) (fun _ _ _ h => h)⟩
      | iter s pos => rw [ho] at h0; exact h0
    · rw [List.getD_eq_getElem?_getD, List.getElem?_eq_none (by omega)]
      simp only [Option.getD_none]
      show G b = none
      cases hgb : G b with
      | none => rfl
      | some l => exact absurd (hs.dom b l hgb) hlt
  · obtain ⟨b1, g1, g2⟩ := hG' i l1 h1
    obtain ⟨b2, g3, g4⟩ := hG' j l2 h2
    have := hs.inj b1 b2 l1 l2 k g2 g4 k1 k2
    subst this
    exact (List.getElem?_inj (List.getElem?_eq_some_iff.1 g1).1 hnd).1 (g1.trans g3.symm)
  · obtain ⟨b, _, g2⟩ := hG' i l h
    exact hs.ext b l k q g2 hk
  · rw [renL_get, Option.map_eq_some_iff] at h2
    obtain ⟨y, hy, rfl⟩ := h2
    rw [keepOnly_get, Option.map_eq_some_iff] at hy
    obtain ⟨z, hz, rfl⟩ := hy
    have hr := ht.2 i v z h1 hz
    split
    · exact hr.ren hcell hρ
    · exact .any ..
  · show pin ≤ H'.length
    rw [hlen, htl]
    simp
  · simp only [G', hpin b hb, Option.bind_some] at h
    exact h
  · obtain ⟨b1, _, g2⟩ := hG' b l h
    exact .inl ⟨b1, l, g2, hk⟩
  · show pin ≤ H'.length
    rw [hlen, htl]
    simp

end Go.Abs

/-
An abstract machine over values as trees: what is checked of a region that draws its order.
-/
namespace Go.Abs
open Go
variable {P : Program} {T : Tab}

def heapAt (E : List (Nat × Heap)) (Hend : Heap) (s : Nat) : Heap := match E[s]? with
  | some x => x.2
  | none => Hend

theorem aguard_cases {ops : Array Oper} {o : Oper} {a : List AV} {run : List AV → Prop} {skip : Prop} (h : aguard ops o a run skip) :
    (∃ a1, aguard ops o a (fun x => x = a1) False ∧ run a1) ∨ (aguard ops o a (fun _ => False) True ∧ skip) := by
  unfold aguard at *
  rcases hg : o.guard with _ | ⟨j, want⟩
  · rw [hg] at h
    exact .inl ⟨_, rfl, h⟩
  · rw [hg] at h
    dsimp only at h ⊢
    split at h
    · exact h.elim
    · split at h
      · rename_i b _
        cases b <;> cases want
        · exact .inl ⟨_, rfl, h⟩
        · exact .inr ⟨trivial, h⟩
        · exact .inr ⟨trivial, h⟩
        · exact .inl ⟨_, rfl, h⟩
      · exact .inr ⟨trivial, h⟩
      · exact h.elim

/-- What is known of one operation. -/
def OpF (P : Program) (T : Tab) (ops : Array Oper) (rows : List Nat) (a fin : List AV) (E : List (Nat × Heap)) (Hend : Heap) (i : Nat) (o : Oper) : Prop :=
  (aguard ops o (amask ops.toList rows (fin.take i) i 0 a) (fun _ => False) True ∧ fin[i]? = some (.tuple []) ∧ ∀ x ∈ E, x.1 ≠ i) ∨
  ∃ a1 v, aguard ops o (amask ops.toList rows (fin.take i) i 0 a) (fun x => x = a1) False ∧ fin[i]? = some v ∧
    ((∃ s x, E[s]? = some x ∧ x.1 = i ∧ aopS P T o a1 (heapAt E Hend s) v (heapAt E Hend (s + 1))) ∨
     ((∀ x ∈ E, x.1 ≠ i) ∧ ∀ s, s ≤ E.length → (∀ x, E[s]? = some x → (rows.getD i 0).testBit x.1 = false) → (∀ x, 0 < s → E[s - 1]? = some x → (rows.getD x.1 0).testBit i = false) →
        aopS P T o a1 (heapAt E Hend s) v (heapAt E Hend s)))

theorem chkPast_spec {o : Oper} {a : List AV} {v : AV} {row : Nat} {rest : Prop} : ∀ {l : List (Nat × Heap)}, chkPast P T o a v row rest l → rest ∧ ∀ x ∈ l, row.testBit x.1 = false → aopS P T o a x.2 v x.2
  | [], h => ⟨h, fun _ hx => nomatch hx⟩
  | (e, H) :: r, h => by
    unfold chkPast at h
    cases hb : row.testBit e with
    | true =>
      rw [hb] at h
      obtain ⟨h1, h2⟩ := chkPast_spec (l := r) h
      refine ⟨h1, fun x hx hf => ?_⟩
      rcases List.mem_cons.1 hx with rfl | hx
      · rw [hb] at hf; cases hf
      · exact h2 x hx hf
    | false =>
      rw [hb] at h
      obtain ⟨h1, h2⟩ := chkPast_spec (l := r) h.2
      refine ⟨h1, fun x hx hf => ?_⟩
      rcases List.mem_cons.1 hx with rfl | hx
      · exact h.1
      · exact h2 x hx hf

theorem chkSil_spec {row : Nat} {H : Heap} {rest : Prop} : ∀ {l : List Sil}, chkSil P T row H rest l → rest ∧ ∀ s ∈ l, row.testBit s.j = false → aopS P T s.o s.a H s.v H
  | [], h => ⟨h, fun _ hx => nomatch hx⟩
  | s :: r, h => by
    unfold chkSil at h
    cases hb : row.testBit s.j with
    | true =>
      rw [hb] at h
      obtain ⟨h1, h2⟩ := chkSil_spec (l := r) h
      refine ⟨h1, fun x hx hf => ?_⟩
      rcases List.mem_cons.1 hx with rfl | hx
      · rw [hb] at hf; cases hf
      · exact h2 x hx hf
    | false =>
      rw [hb] at h
      obtain ⟨h1, h2⟩ := chkSil_spec (l := r) h.2
      refine ⟨h1, fun x hx hf => ?_⟩
      rcases List.mem_cons.1 hx with rfl | hx
      · exact h.1
      · exact h2 x hx hf

theorem heapAt_lt {past E2 : List (Nat × Heap)} {Hend : Heap} {s : Nat} {x : Nat × Heap} (h : past[s]? = some x) : heapAt (past ++ E2) Hend s = x.2 := by
  have hlt := (List.getElem?_eq_some_iff.1 h).1
  simp only [heapAt, List.getElem?_append_left hlt, h]

def DConcl (P : Program) (T : Tab) (ops : Array Oper) (rows : List Nat) (a : List AV) (K : List AV → Heap → Prop) (r : List Oper) (i : Nat) (finp : List AV) (past : List (Nat × Heap)) (sil : List Sil) (H : Heap) : Prop :=
  ∃ fin2 E2 Hend, fin2.length = r.length ∧ K (afin ops.toList (finp ++ fin2) 0 a) Hend ∧ heapAt (past ++ E2) Hend past.length = H ∧ (∀ x ∈ E2, i ≤ x.1 ∧ x.1 < i + r.length) ∧
        (∀ t x, E2[t]? = some x → ∀ y ∈ past ++ E2.take t, (rows.getD x.1 0).testBit y.1 = true) ∧
        (∀ s ∈ sil, ∀ t x, E2[t]? = some x → (rows.getD x.1 0).testBit s.j = false → aopS P T s.o s.a (heapAt (past ++ E2) Hend (past.length + t + 1)) s.v (heapAt (past ++ E2) Hend (past.length + t + 1))) ∧
        (∀ k o, r[k]? = some o → OpF P T ops rows a (finp ++ fin2) (past ++ E2) Hend (i + k) o)

theorem adraw_full (hA : TAng T) (hM : TMono T) {ops : Array Oper} {rows effs : List Nat} {a : List AV} {K : List AV → Heap → Prop} :
    ∀ (r : List Oper) (i : Nat) (finp : List AV) (past : List (Nat × Heap)) (sil : List Sil) (H : Heap), finp.length = i → (∀ x ∈ past, x.1 < i) → adraw P T ops rows effs a K r i finp past sil H →
      DConcl P T ops rows a K r i finp past sil H
  | [], i, finp, past, sil, H, hl, hp, h => ⟨[], [], H, rfl, by simpa [adraw] using h, by simp [heapAt], by simp, fun t x hx => by simp at hx, fun s _ t x hx => by simp at hx, fun k o hk => by simp at hk⟩
  | o :: r, i, finp, past, sil, H, hl, hp, h => by
    have ih := adraw_full hA hM (ops := ops) (rows := rows) (effs := effs) (a := a) (K := K) r (i + 1)
    have tk : ∀ (x : AV) l, (finp ++ x :: l).take i = finp := fun x l => by rw [← hl]; simp
    have at_ : ∀ (x : AV) l, (finp ++ x :: l)[i]? = some x := fun x l => by rw [← hl]; simp
    have later : ∀ {E2 : List (Nat × Heap)}, (∀ x ∈ E2, i + 1 ≤ x.1 ∧ x.1 < i + 1 + r.length) → ∀ x ∈ past ++ E2, x.1 ≠ i := fun h1 x hx => by
      rcases List.mem_append.1 hx with hx | hx
      · have := hp x hx; omega
      · have := h1 x hx; omega
    have hp' : ∀ x ∈ past, x.1 < i + 1 := fun x hx => by have := hp x hx; omega
    unfold adraw dstep at h
    cases hang : angOp o with
    | false => rw [hang] at h; exact h.elim
    | true =>
    simp only [hang, cond_true, forceV_eq, forceS_eq] at h
    rcases aguard_cases h with ⟨a1, hg, h⟩ | ⟨hg, h⟩
    · -- it is carried out
      -- a silent operation
      have silent : ∀ v sil', adraw P T ops rows effs a K r (i + 1) (finp ++ [v]) past sil' H → (∀ s ∈ sil, s ∈ sil') → aopS P T o a1 H v H →
          (∀ x ∈ past, (rows.getD i 0).testBit x.1 = false → aopS P T o a1 x.2 v x.2) → (⟨i, o, a1, v⟩ ∈ sil' ∨ ∀ H2, aopS P T o a1 H2 v H2) → DConcl P T ops rows a K (o :: r) i finp past sil H := fun v sil' hd hsub hnow hpast hfut => by
        obtain ⟨fin2, E2, Hend, e1, e2, e3, e4, e5, e6, e7⟩ := ih (finp ++ [v]) past sil' H (by simp [hl]) hp' hd
        simp only [List.append_assoc, List.singleton_append] at e2 e7
        refine ⟨v :: fin2, E2, Hend, by simp [e1], e2, e3, fun x hx => by have := e4 x hx; simp only [List.length_cons]; omega, e5, fun s hs => e6 s (hsub s hs), fun k o' hk => ?_⟩
        cases k with
        | zero =>
          cases hk
          refine .inr ⟨a1, v, by rw [Nat.add_zero, tk]; exact hg, at_ _ _, .inr ⟨later e4, fun s hs h1 h2 => ?_⟩⟩
          rcases Nat.lt_trichotomy s past.length with hlt | heq | hgt
          · have hx : past[s]? = some past[s] := List.getElem?_eq_getElem hlt
            rw [heapAt_lt hx]
            exact hpast _ (List.getElem_mem hlt) (h1 _ (by rw [List.getElem?_append_left hlt, hx]))
          · subst heq
            rw [e3]
            exact hnow
          · rcases hfut with hfut | hfut
            · obtain ⟨t, rfl⟩ : ∃ t, s = past.length + t + 1 := ⟨s - past.length - 1, by omega⟩
              have hlt : t < E2.length := by simp only [List.length_append] at hs; omega
              have hx : E2[t]? = some E2[t] := List.getElem?_eq_getElem hlt
              refine e6 ⟨i, o, a1, v⟩ hfut t _ hx (h2 _ (by omega) ?_)
              rw [show past.length + t + 1 - 1 = past.length + t by omega, List.getElem?_append_right (by omega), show past.length + t - past.length = t by omega, hx]
            · exact hfut _
        | succ k =>
          have := e7 k o' (by simpa using hk)
          rwa [show i + 1 + k = i + (k + 1) by omega] at this
      cases he : effs.contains i with
      | true =>
        simp only [he, cond_true] at h
        obtain ⟨v, H', h1, h2⟩ := aop_ang hA hM o hang a1 H _ h
        rw [forceH_eq, allPast_eq] at h2
        cases hall : past.all fun e => (rows.getD i 0).testBit e.1 with
        | false => rw [hall] at h2; exact h2.elim
        | true =>
          rw [hall] at h2
          obtain ⟨h3, h4⟩ := chkSil_spec h2
          obtain ⟨fin2, E2, Hend, e1, e2, e3, e4, e5, e6, e7⟩ := ih (finp ++ [v]) (past ++ [(i, H)]) sil H' (by simp [hl]) (fun x hx => by
            rcases List.mem_append.1 hx with hx | hx
            · exact hp' x hx
            · rw [List.mem_singleton] at hx; subst hx; simp) h3
          simp only [List.append_assoc, List.singleton_append, List.length_append, List.length_singleton] at e2 e3 e5 e6 e7
          refine ⟨v :: fin2, (i, H) :: E2, Hend, by simp [e1], e2, by simp [heapAt], fun x hx => ?_, fun t x hx y hy => ?_, fun s hs t x hx hb => ?_, fun k o' hk => ?_⟩
          · rcases List.mem_cons.1 hx with rfl | hx
            · exact ⟨Nat.le_refl _, by simp⟩
            · have := e4 x hx; simp only [List.length_cons]; omega
          · cases t with
            | zero =>
              simp only [List.getElem?_cons_zero, Option.some.injEq] at hx
              subst hx
              simp only [List.take_zero, List.append_nil] at hy
              exact List.all_eq_true.1 hall y hy
            | succ t => exact e5 t x (by simpa using hx) y (by simpa using hy)
          · cases t with
            | zero =>
              simp only [List.getElem?_cons_zero, Option.some.injEq] at hx
              subst hx
              have := h4 s hs hb
              rw [Nat.add_zero, e3]
              exact this
            | succ t =>
              have := e6 s hs t x (by simpa using hx) hb
              rwa [show past.length + 1 + t + 1 = past.length + (t + 1) + 1 by omega] at this
          · cases k with
            | zero =>
              cases hk
              refine .inr ⟨a1, v, by rw [Nat.add_zero, tk]; exact hg, at_ _ _, .inl ⟨past.length, (i, H), by simp, rfl, ?_⟩⟩
              rw [e3]
              have : heapAt (past ++ (i, H) :: E2) Hend past.length = H := by simp [heapAt]
              rw [this]
              exact h1
            | succ k =>
              have := e7 k o' (by simpa using hk)
              rwa [show i + 1 + k = i + (k + 1) by omega] at this
      | false =>
        simp only [he] at h
        cases hf : hfree o with
        | true =>
          simp only [hf, cond_true] at h
          obtain ⟨v, h1, h2⟩ := aop_hfree hf a1 H _ h
          exact silent v sil h2 (fun s hs => hs) (h1 H) (fun x _ _ => h1 x.2) (.inr h1)
        | false =>
          simp only [hf] at h
          have gen : ∀ v, aopS P T o a1 H v H → chkPast P T o a1 v (rows.getD i 0) (adraw P T ops rows effs a K r (i + 1) (finp ++ [v]) past (sil ++ [⟨i, o, a1, v⟩]) H) past → DConcl P T ops rows a K (o :: r) i finp past sil H := fun v h1 h2 => by
            obtain ⟨h3, h4⟩ := chkPast_spec h2
            exact silent v (sil ++ [⟨i, o, a1, v⟩]) h3 (fun s hs => List.mem_append_left _ hs) h1 h4 (.inl (by simp))
          cases hk : hkeep o with
          | true =>
            simp only [hk, cond_true] at h
            obtain ⟨v, H', h1, h2⟩ := aop_ang hA hM o hang a1 H _ (aop_hkeep hk a1 H _ h)
            obtain ⟨rfl, h2⟩ := h2
            exact gen v h1 h2
          | false =>
            simp only [hk] at h
            obtain ⟨v, H', h1, h2⟩ := aop_ang hA hM o hang a1 H _ h
            obtain ⟨rfl, h2⟩ := h2
            exact gen v h1 h2
    · -- it is left out
      obtain ⟨fin2, E2, Hend, e1, e2, e3, e4, e5, e6, e7⟩ := ih (finp ++ [.tuple []]) past sil H (by simp [hl]) hp' h
      simp only [List.append_assoc, List.singleton_append] at e2 e7
      refine ⟨.tuple [] :: fin2, E2, Hend, by simp [e1], e2, e3, fun x hx => by have := e4 x hx; simp only [List.length_cons]; omega, e5, e6, fun k o' hk => ?_⟩
      cases k with
      | zero =>
        cases hk
        exact .inl ⟨by rw [Nat.add_zero, tk]; exact hg, at_ _ _, later e4⟩
      | succ k =>
        have := e7 k o' (by simpa using hk)
        rwa [show i + 1 + k = i + (k + 1) by omega] at this

end Go.Abs

/-
An abstract machine over values as trees: regions that draw their order are sound.
-/
namespace Go.Abs
open Go
variable {P : Program}

theorem tv_set_same {w : World} {M : Mut} {n : Nat} {G : Gh} {t : Array Value} {a : List AV} (ht : TV w M n G t a) {d : Nat} {x : AV} (hx : ∀ v, t[d]? = some v → RV w M n G v x) : TV w M n G t (a.set d x) := by
  refine ⟨by simp [ht.1], fun i v y h1 h2 => ?_⟩
  by_cases hd : d = i
  · subst hd
    have hlt : d < a.length := by have := (List.getElem?_eq_some_iff.1 h2).1; simpa using this
    rw [List.getElem?_set_self hlt] at h2
    cases h2
    exact hx v h1
  · rw [List.getElem?_set_ne hd] at h2
    exact ht.2 i v y h1 h2

theorem tmp_at {w : World} {M : Mut} {n : Nat} {G : Gh} {t : Array Value} {a : List AV} (ht : TV w M n G t a) {d : Nat} {x : AV} (hx : a.getD d .any = x) (hne : x ≠ .any) : ∃ v, t[d]? = some v ∧ RV w M n G v x := by
  rw [List.getD_eq_getElem?_getD] at hx
  by_cases h : d < a.length
  · rw [List.getElem?_eq_getElem h] at hx
    simp only [Option.getD_some] at hx
    have h' : d < t.size := by rw [ht.1]; exact h
    exact ⟨t[d], Array.getElem?_eq_getElem h', ht.2 d _ _ (Array.getElem?_eq_getElem h') (by rw [List.getElem?_eq_getElem h, hx])⟩
  · rw [List.getElem?_eq_none (by omega)] at hx
    exact absurd hx.symm hne

theorem aguard_run {w : World} {M : Mut} {n : Nat} {G : Gh} {ops : Array Oper} {o : Oper} {t : Array Value} {a a1 : List AV} (ht : TV w M n G t a) (h : aguard ops o a (fun x => x = a1) False) :
    Region.wanted o (yielded ops t) = true ∧ TV w M n G t a1 := by
  unfold aguard at h
  rcases hg : o.guard with _ | ⟨j, want⟩
  · rw [hg] at h
    subst h
    exact ⟨by simp [Region.wanted, hg], ht⟩
  · rw [hg] at h
    dsimp only at h
    split at h
    · exact h.elim
    · rename_i d hd
      have hy : yielded ops t j = match t[d]? with | some (.bool b) => some b | _ => none := by
        simp only [yielded, hd, Option.bind_some]
        rfl
      split at h
      · rename_i b hb
        obtain ⟨v, hv, hr⟩ := tmp_at ht hb (by nofun)
        have hvb := hr.bool_inv
        subst hvb
        rw [hv] at hy
        simp only at hy
        have hset : TV w M n G t (a.set d (.bool b)) := tv_set_same ht (fun u hu => by rw [hv] at hu; cases hu; exact .bool ..)
        cases b <;> cases want
        · subst h; exact ⟨by simp [Region.wanted, hg, hy], hset⟩
        · exact h.elim
        · exact h.elim
        · subst h; exact ⟨by simp [Region.wanted, hg, hy], hset⟩
      · exact h.elim
      · exact h.elim

theorem aguard_skip {w : World} {M : Mut} {n : Nat} {G : Gh} {ops : Array Oper} {o : Oper} {t : Array Value} {a : List AV} (ht : TV w M n G t a) (h : aguard ops o a (fun _ => False) True) :
    Region.wanted o (yielded ops t) = false := by
  unfold aguard at h
  rcases hg : o.guard with _ | ⟨j, want⟩
  · rw [hg] at h
    exact h.elim
  · rw [hg] at h
    dsimp only at h
    split at h
    · exact h.elim
    · rename_i d hd
      have hy : yielded ops t j = match t[d]? with | some (.bool b) => some b | _ => none := by
        simp only [yielded, hd, Option.bind_some]
        rfl
      split at h
      · rename_i b hb
        obtain ⟨v, hv, hr⟩ := tmp_at ht hb (by nofun)
        have hvb := hr.bool_inv
        subst hvb
        rw [hv] at hy
        simp only at hy
        cases b <;> cases want <;> first | exact h.elim | simp [Region.wanted, hg, hy]
      · rename_i vs hb
        obtain ⟨v, hv, hr⟩ := tmp_at ht hb (by nofun)
        obtain ⟨cs, hcs, _⟩ := hr.tuple_inv
        subst hcs
        rw [hv] at hy
        simp only at hy
        simp [Region.wanted, hg, hy]
      · exact h.elim

/-! ### What comes before what -/
theorem orAll_spec {rows : List Nat} {j : Nat} : ∀ {bs : List Nat}, (orAll rows bs).testBit j = true → ∃ m ∈ bs, j = m ∨ (rows.getD m 0).testBit j = true
  | [], h => by simp [orAll] at h
  | b :: r, h => by
    simp only [orAll, Nat.testBit_or, Bool.or_eq_true] at h
    rcases h with h | h | h
    · refine ⟨b, List.mem_cons_self, .inl ?_⟩
      rw [Nat.shiftLeft_eq, Nat.one_mul, Nat.testBit_two_pow] at h
      exact (of_decide_eq_true h).symm
    · exact ⟨b, List.mem_cons_self, .inr h⟩
    · obtain ⟨m, h1, h2⟩ := orAll_spec (bs := r) h
      exact ⟨m, List.mem_cons_of_mem _ h1, h2⟩

theorem befs_old : ∀ (l : List Oper) (rows : List Nat) (i : Nat), i < rows.length → (befs l rows).getD i 0 = rows.getD i 0
  | [], _, _, _ => rfl
  | o :: r, rows, i, h => by
    unfold befs
    rw [befs_old r _ i (by simp; omega)]
    simp [List.getD_eq_getElem?_getD, List.getElem?_append_left h]

theorem befs_row : ∀ (l : List Oper) (rows : List Nat) (t j : Nat), ((befs l rows).getD (rows.length + t) 0).testBit j = true → ∃ o, l[t]? = some o ∧ ∃ m ∈ bnd o, j = m ∨ ((befs l rows).getD m 0).testBit j = true
  | [], rows, t, j, h => by
    unfold befs at h
    rw [List.getD_eq_getElem?_getD, List.getElem?_eq_none (by omega)] at h
    simp at h
  | o :: r, rows, t, j, h => by
    unfold befs at h ⊢
    cases t with
    | zero =>
      rw [befs_old r _ _ (by simp)] at h
      simp only [Nat.add_zero, List.getD_eq_getElem?_getD, List.getElem?_append_right (Nat.le_refl _), Nat.sub_self, List.getElem?_cons_zero, Option.getD_some] at h
      obtain ⟨m, h1, h2⟩ := orAll_spec h
      refine ⟨o, rfl, m, h1, h2.imp id fun h2 => ?_⟩
      by_cases hm : m < rows.length
      · rw [befs_old r _ m (by simp; omega)]
        rw [List.getD_eq_getElem?_getD] at h2
        simpa [List.getD_eq_getElem?_getD, List.getElem?_append_left hm] using h2
      · rw [List.getD_eq_getElem?_getD, List.getElem?_eq_none (by omega)] at h2
        simp at h2
    | succ t =>
      have := befs_row r (rows ++ [orAll rows (bnd o)]) t j (by simpa [Nat.add_assoc, Nat.add_comm 1 t] using h)
      simpa using this

theorem dstIx_spec : ∀ (l : List Oper) (k t j : Nat), dstIx l k t = some j → ∃ o, k ≤ j ∧ l[j - k]? = some o ∧ o.dst = some t
  | [], _, _, _, h => by cases h
  | o :: r, k, t, j, h => by
    unfold dstIx at h
    have rec_ : dstIx r (k + 1) t = some j → ∃ o', k ≤ j ∧ (o :: r)[j - k]? = some o' ∧ o'.dst = some t := fun h => by
      obtain ⟨o', h1, h2, h3⟩ := dstIx_spec r (k + 1) t j h
      exact ⟨o', by omega, by rw [show j - k = (j - (k + 1)) + 1 by omega]; simpa using h2, h3⟩
    split at h
    · rename_i d hd
      cases hb : d == t with
      | true =>
        rw [hb] at h
        cases h
        exact ⟨o, Nat.le_refl _, by simp, by rw [hd]; simpa using hb⟩
      | false => rw [hb] at h; exact rec_ h
    · exact rec_ h

theorem okDraw_spec {ops : List Oper} (h : okDraw ops = true) : (∀ (i : Nat) o, ops[i]? = some o → ∀ j ∈ bnd o, j < i) ∧ ∀ (i : Nat) o d, ops[i]? = some o → o.dst = some d → dstIx ops 0 d = some i := by
  simp only [okDraw, Bool.and_eq_true, List.all_eq_true] at h
  refine ⟨fun i o ho j hj => ?_, fun i o d ho hd => ?_⟩
  · have := h.1 (o, i) (by rw [List.mem_iff_getElem?]; exact ⟨i, by simp [ho]⟩) j hj
    simpa [Nat.blt_eq] using this
  · have := h.2 (o, i) (by rw [List.mem_iff_getElem?]; exact ⟨i, by simp [ho]⟩)
    simp only [hd] at this
    split at this
    · rename_i j hj
      rw [hj]
      simpa using this
    · cases this

section
variable {ops : Array Oper} {listed : Array Bool}

def Shut (ops : Array Oper) (listed : Array Bool) : Prop := ∀ (i : Nat) o, ops[i]? = some o → listed.getD i false = true → ∀ j ∈ bnd o, listed.getD j false = true

theorem shut_bef (hk : okDraw ops.toList = true) (hS : Shut ops listed) : ∀ (n i : Nat), i < n → listed.getD i false = true → ∀ j, ((befs ops.toList []).getD i 0).testBit j = true → listed.getD j false = true
  | 0, i, hi, _, _, _ => absurd hi (Nat.not_lt_zero _)
  | n + 1, i, hi, hl, j, hb => by
    obtain ⟨o, ho, m, hm, h⟩ := befs_row ops.toList [] i j (by simpa using hb)
    have hmi := (okDraw_spec hk).1 i o ho m hm
    have hml := hS i o (by simpa using ho) hl m hm
    rcases h with rfl | h
    · exact hml
    · exact shut_bef hk hS n m (by omega) hml j h

theorem ready_bef (hk : okDraw ops.toList = true) (hS : Shut ops listed) {i : Nat} {o : Oper} (ho : ops[i]? = some o) (hr : ∀ m ∈ bnd o, listed.getD m false = true) {j : Nat} (hb : ((befs ops.toList []).getD i 0).testBit j = true) : listed.getD j false = true := by
  obtain ⟨o', ho', m, hm, h⟩ := befs_row ops.toList [] i j (by simpa using hb)
  have : o' = o := by rw [Array.getElem?_toList] at ho'; rw [ho] at ho'; exact (Option.some.inj ho').symm
  subst this
  rcases h with rfl | h
  · exact hr _ hm
  · exact shut_bef hk hS (m + 1) m (by omega) (hr m hm) j h

theorem bnd_mem {o : Oper} {m : Nat} : m ∈ bnd o ↔ ∃ e ∈ o.after, Region.binds .any e = true ∧ e.on = m := by
  simp only [bnd, List.mem_map, List.mem_filter, Array.mem_toList_iff, and_assoc]

/-- What a temporary holds, so far. -/
def visT (ops : List Oper) (fin : List AV) (listed : Array Bool) (t : Nat) (x : AV) : AV :=
  match dstIx ops 0 t with
  | none => x
  | some j => if listed.getD j false = true then fin.getD j .any else x

def TVS (w : World) (M : Mut) (n : Nat) (G : Gh) (tmps : Array Value) (ops : List Oper) (fin a : List AV) (listed : Array Bool) : Prop :=
  tmps.size = a.length ∧ ∀ (t : Nat) v x, tmps[t]? = some v → a[t]? = some x → RV w M n G v (visT ops fin listed t x)

theorem amask_get (l : List Oper) (rows : List Nat) (fin : List AV) (i : Nat) : ∀ (a : List AV) (k t : Nat), (amask l rows fin i k a)[t]? = (a[t]?).map (maskT l rows fin i (k + t))
  | [], k, t => by simp [amask]
  | x :: r, k, t => by
    cases t with
    | zero => simp [amask]
    | succ t => simp only [amask, List.getElem?_cons_succ, amask_get l rows fin i r (k + 1) t]; rw [show k + 1 + t = k + (t + 1) by omega]
theorem afin_get (l : List Oper) (fin : List AV) : ∀ (a : List AV) (k t : Nat), (afin l fin k a)[t]? = (a[t]?).map (finT l fin (k + t))
  | [], k, t => by simp [afin]
  | x :: r, k, t => by
    cases t with
    | zero => simp [afin]
    | succ t => simp only [afin, List.getElem?_cons_succ, afin_get l fin r (k + 1) t]; rw [show k + 1 + t = k + (t + 1) by omega]
theorem amask_length (l : List Oper) (rows : List Nat) (fin : List AV) (i : Nat) : ∀ (a : List AV) (k : Nat), (amask l rows fin i k a).length = a.length
  | [], k => rfl
  | x :: r, k => by simp [amask, amask_length l rows fin i r]
theorem afin_length (l : List Oper) (fin : List AV) : ∀ (a : List AV) (k : Nat), (afin l fin k a).length = a.length
  | [], k => rfl
  | x :: r, k => by simp [afin, afin_length l fin r]

theorem TVS.mask {w : World} {M : Mut} {n : Nat} {G : Gh} {tmps : Array Value} {fin a : List AV} (h : TVS w M n G tmps ops.toList fin a listed) (hk : okDraw ops.toList = true) (hS : Shut ops listed) {i : Nat} {o : Oper} (ho : ops[i]? = some o)
    (hr : ∀ m ∈ bnd o, listed.getD m false = true) (hi : listed.getD i false = false) : TV w M n G tmps (amask ops.toList (befs ops.toList []) (fin.take i) i 0 a) := by
  refine ⟨by rw [amask_length]; exact h.1, fun t v y h1 h2 => ?_⟩
  rw [amask_get, Option.map_eq_some_iff] at h2
  obtain ⟨x, hx, rfl⟩ := h2
  have hv := h.2 t v x h1 hx
  rw [Nat.zero_add]
  unfold visT at hv
  unfold maskT
  split
  · rename_i hn; rw [hn] at hv; exact hv
  · rename_i j hj
    rw [hj] at hv
    dsimp only at hv
    cases hb : ((befs ops.toList []).getD i 0).testBit j with
    | true =>
      rw [if_pos (ready_bef hk hS ho hr hb)] at hv
      try simp only [cond_true]
      by_cases hji : j < i
      · rw [List.getD_eq_getElem?_getD, List.getElem?_take_of_lt hji, ← List.getD_eq_getElem?_getD]; exact hv
      · rw [List.getD_eq_getElem?_getD, List.getElem?_eq_none (by simp; omega)]; exact .any ..
    | false =>
      try simp only [cond_false]
      cases hc : (j == i || ((befs ops.toList []).getD j 0).testBit i) with
      | false => exact .any ..
      | true =>
        try simp only [cond_true]
        have hnl : ¬ listed.getD j false = true := fun hl => by
          rcases Bool.or_eq_true_iff.1 hc with hc | hc
          · rw [beq_iff_eq] at hc; subst hc; rw [hl] at hi; cases hi
          · have := shut_bef hk hS (j + 1) j (by omega) hl i hc
            rw [this] at hi; cases hi
        rw [if_neg hnl] at hv
        exact hv

theorem TVS.put {w w' : World} {Mx : Mut} {H H' : Heap} {G G' : Gh} {act : Act} {fin a : List AV} (h : TVS w (MM Mx G H) H.length G act.tmps ops.toList fin a listed) (hst : Step H.length Mx G H w G' H' w') (hk : okDraw ops.toList = true)
    {i : Nat} {o : Oper} (ho : ops[i]? = some o) (hsz : listed.size = ops.size) {v : Value} {x : AV} (hx : fin[i]? = some x) (hv : RV w' (MM Mx G' H') H'.length G' v x) :
    TVS w' (MM Mx G' H') H'.length G' (act.put o.dst v).tmps ops.toList fin a (listed.setIfInBounds i true) := by
  have hlt : i < listed.size := by rw [hsz]; exact (Array.getElem?_eq_some_iff.1 ho).1
  have hset : ∀ j, (listed.setIfInBounds i true).getD j false = if j = i then true else listed.getD j false := fun j => by
    by_cases hj : j = i
    · subst hj; simp [hlt]
    · rw [if_neg hj, Go.getD_set_ne false (Ne.symm hj)]
  have old : ∀ t u y, act.tmps[t]? = some u → a[t]? = some y → o.dst ≠ some t → RV w' (MM Mx G' H') H'.length G' u (visT ops.toList fin (listed.setIfInBounds i true) t y) := fun t u y h1 h2 hne => by
    have := hst.rv (h.2 t u y h1 h2)
    unfold visT at this ⊢
    split
    · rename_i hn; rw [hn] at this; exact this
    · rename_i j hj
      rw [hj] at this
      dsimp only at this
      have hji : j ≠ i := fun e => by
        subst e
        obtain ⟨o', _, h3, h4⟩ := dstIx_spec _ _ _ _ hj
        rw [Nat.sub_zero, Array.getElem?_toList, ho] at h3
        cases h3
        exact hne h4
      rw [hset, if_neg hji]
      exact this
  cases hd : o.dst with
  | none => exact ⟨h.1, fun t u y h1 h2 => old t u y h1 h2 (by rw [hd]; nofun)⟩
  | some d =>
    refine ⟨by simp [Act.put, h.1], fun t u y h1 h2 => ?_⟩
    by_cases htd : d = t
    · subst htd
      have hlt' : d < act.tmps.size := by have := (Array.getElem?_eq_some_iff.1 h1).1; simpa [Act.put] using this
      simp only [Act.put, Array.getElem?_setIfInBounds_self_of_lt hlt', Option.some.injEq] at h1
      subst h1
      unfold visT
      rw [(okDraw_spec hk).2 i o d (by simpa using ho) hd]
      dsimp only
      rw [hset, if_pos rfl, if_pos rfl, List.getD_eq_getElem?_getD, hx]
      exact hv
    · simp only [Act.put, Array.getElem?_setIfInBounds_ne htd] at h1
      exact old t u y h1 h2 (by rw [hd]; intro e; exact htd (Option.some.inj e))

end

end Go.Abs

/-
An abstract machine over values as trees: a region that draws its order is run.
-/
namespace Go.Abs
open Go
variable {P : Program}

theorem heapAt_some {E : List (Nat × Heap)} {Hend : Heap} {s : Nat} {x : Nat × Heap} (h : E[s]? = some x) : heapAt E Hend s = x.2 := by simp [heapAt, h]

theorem draw_run {T : Tab} (hT : TOK P T) {ops : Array Oper} (hk : okDraw ops.toList = true) {fin a : List AV} {E : List (Nat × Heap)} {Hend : Heap}
    (h5 : ∀ t x, E[t]? = some x → ∀ y ∈ E.take t, ((befs ops.toList []).getD x.1 0).testBit y.1 = true) (h7 : ∀ k o, ops[k]? = some o → OpF P T ops (befs ops.toList []) a fin E Hend k o)
    (hE : ∀ x ∈ E, x.1 < ops.size) {K : List AV → Heap → Prop} (hfin : K (afin ops.toList fin 0 a) Hend) {Mx : Mut} {p : Nat} {G0' : Gh} {H0 : Heap} {w0 : World} {ds : List Deferred} {Q : Exit → Act → World → Prop}
    (hK : ∀ a' H' G' w' act', Step p Mx G0' H0 w0 G' H' w' → Sim Mx G' H' w' → TV w' (MM Mx G' H') H'.length G' act'.tmps a' → act'.defers = ds → K a' H' → Q .normal act' w') :
    ∀ (fuel : Nat) (listed : Array Bool) (s : Nat) (act : Act) (w : World) (G : Gh), listed.size = ops.size → Shut ops listed → listed.toList.count false = fuel → s ≤ E.length →
      (∀ t x, E[t]? = some x → (listed.getD x.1 false = true ↔ t < s)) → Step p Mx G0' H0 w0 G (heapAt E Hend s) w → p ≤ (heapAt E Hend s).length → Sim Mx G (heapAt E Hend s) w →
      TVS w (MM Mx G (heapAt E Hend s)) (heapAt E Hend s).length G act.tmps ops.toList fin a listed → act.defers = ds → wpAny P .any ops Q fuel listed act w := by
  have done : ∀ (listed : Array Bool) (s : Nat) (act : Act) (w : World) (G : Gh), (∀ i, i < ops.size → listed.getD i false = true) → s ≤ E.length →
      (∀ t x, E[t]? = some x → (listed.getD x.1 false = true ↔ t < s)) → Step p Mx G0' H0 w0 G (heapAt E Hend s) w → Sim Mx G (heapAt E Hend s) w →
      TVS w (MM Mx G (heapAt E Hend s)) (heapAt E Hend s).length G act.tmps ops.toList fin a listed → act.defers = ds → Q .normal act w := by
    intro listed s act w G hall hs hstage hst hsim htv hd
    have hse : s = E.length := by
      rcases Nat.lt_or_ge s E.length with hlt | hge
      · have hx : E[s]? = some E[s] := List.getElem?_eq_getElem hlt
        have := (hstage s _ hx).1 (hall _ (hE _ (List.getElem_mem hlt)))
        omega
      · omega
    have hh : heapAt E Hend s = Hend := by subst hse; simp [heapAt]
    rw [hh] at hst hsim htv
    refine hK _ Hend G w act hst hsim ⟨by rw [afin_length]; exact htv.1, fun t v y h1 h2 => ?_⟩ hd hfin
    rw [afin_get, Option.map_eq_some_iff] at h2
    obtain ⟨x, hx, rfl⟩ := h2
    have := htv.2 t v x h1 hx
    rw [Nat.zero_add]
    unfold visT at this
    unfold finT
    split
    · rename_i hn; rw [hn] at this; exact this
    · rename_i j hj
      rw [hj] at this
      dsimp only at this
      obtain ⟨o, _, ho, _⟩ := dstIx_spec _ _ _ _ hj
      rw [Nat.sub_zero, Array.getElem?_toList] at ho
      rw [if_pos (hall j (Array.getElem?_eq_some_iff.1 ho).1)] at this
      exact this
  have getT : ∀ (listed : Array Bool) i, i < listed.size → listed.getD i true = listed.getD i false := fun listed i hi => by simp [hi]
  have emp : ∀ (listed : Array Bool), listed.size = ops.size → Region.ready .any ops listed = [] → ∀ i, i < ops.size → listed.getD i false = true := by
    intro listed hsz hr i
    induction i using Nat.strongRecOn with
    | ind i ih =>
      intro hi
      cases hl : listed.getD i false with
      | true => rfl
      | false =>
        have : i ∈ Region.ready .any ops listed := by
          rw [mem_ready]
          refine ⟨by rw [getT listed i (by omega)]; exact hl, ops[i], Array.getElem?_eq_getElem hi, fun e he hb => ?_⟩
          have hlt := (okDraw_spec hk).1 i ops[i] (by simp [hi]) e.on (bnd_mem.2 ⟨e, he, hb, rfl⟩)
          exact ih e.on hlt (by omega)
        rw [hr] at this
        cases this
  intro fuel
  induction fuel with
  | zero =>
    intro listed s act w G hsz hS hc hs hstage hst hp hsim htv hd
    have hall : ∀ i, i < ops.size → listed.getD i false = true := by
      intro i hi
      cases hl : listed.getD i false with
      | true => rfl
      | false =>
        exfalso
        have hi' : i < listed.size := by omega
        have hm : false ∈ listed.toList := by
          rw [Array.mem_toList_iff]
          have : listed[i] = false := by simpa [hi'] using hl
          rw [← this]
          exact Array.getElem_mem hi'
        have := List.count_pos_iff.2 hm
        omega
    refine ⟨List.eq_nil_iff_forall_not_mem.2 fun i hi => ?_, done listed s act w G hall hs hstage hst hsim htv hd⟩
    rw [mem_ready] at hi
    obtain ⟨h1, o, ho, _⟩ := hi
    have hlt := (Array.getElem?_eq_some_iff.1 ho).1
    rw [getT listed i (by omega), hall i hlt] at h1
    cases h1
  | succ fuel ih =>
    intro listed s act w G hsz hS hc hs hstage hst hp hsim htv hd
    refine ⟨fun hr => done listed s act w G (emp listed hsz hr) hs hstage hst hsim htv hd, fun i hi => ?_⟩
    rw [mem_ready] at hi
    obtain ⟨hun, o, ho, hafter⟩ := hi
    have hlt := (Array.getElem?_eq_some_iff.1 ho).1
    have hlt' : i < listed.size := by omega
    rw [getT listed i hlt'] at hun
    have hbnd : ∀ m ∈ bnd o, listed.getD m false = true := fun m hm => by
      obtain ⟨e, he, hb, rfl⟩ := bnd_mem.1 hm
      exact hafter e he hb
    have hset : ∀ j, (listed.setIfInBounds i true).getD j false = if j = i then true else listed.getD j false := fun j => by
      by_cases hj : j = i
      · subst hj; simp [hlt']
      · rw [if_neg hj, Go.getD_set_ne false (Ne.symm hj)]
    have hS' : Shut ops (listed.setIfInBounds i true) := fun k ok hok hl j hj => by
      rw [hset] at hl ⊢
      by_cases hji : j = i
      · rw [if_pos hji]
      · rw [if_neg hji]
        by_cases hki : k = i
        · subst hki
          rw [ho] at hok
          cases hok
          exact hbnd j hj
        · rw [if_neg hki] at hl
          exact hS k ok hok hl j hj
    have hc' : (listed.setIfInBounds i true).toList.count false = fuel := by
      have hli : listed.toList[i]'(by simpa using hlt') = false := by simpa [hlt'] using hun
      have hm : (listed.setIfInBounds i true).toList = listed.toList.set i true := by simp
      rw [hm, List.count_set (by simpa using hlt'), hli, hc]
      simp
    have hmask := htv.mask hk hS ho hbnd hun
    -- the stage where it stands
    have nolist : ∀ x, E[s]? = some x → ((befs ops.toList []).getD i 0).testBit x.1 = false := fun x hx => by
      cases hb : ((befs ops.toList []).getD i 0).testBit x.1 with
      | false => rfl
      | true =>
        have := (hstage s x hx).1 (ready_bef hk hS ho hbnd hb)
        omega
    have norev : ∀ x, 0 < s → E[s - 1]? = some x → ((befs ops.toList []).getD x.1 0).testBit i = false := fun x h0 hx => by
      cases hb : ((befs ops.toList []).getD x.1 0).testBit i with
      | false => rfl
      | true =>
        have h1 := (hstage (s - 1) x hx).2 (by omega)
        have := shut_bef hk hS (x.1 + 1) x.1 (by omega) h1 i hb
        rw [this] at hun
        cases hun
    have putd : ∀ (ac : Act) dst v, (ac.put dst v).defers = ac.defers := fun ac dst v => by cases dst <;> rfl
    simp only [Go.wpOp, ho]
    rcases h7 i o ho with ⟨hg, hx, hnE⟩ | ⟨a1, v, hg, hx, h⟩
    · rw [if_neg (by rw [aguard_skip hmask hg]; simp)]
      refine ih _ s _ w G (by simpa using hsz) hS' hc' hs (fun t x ht => ?_) hst hp hsim (htv.put Step.refl hk ho hsz hx (.tuple _ _ _ _ rfl (fun i v x h => by simp at h))) (by rw [putd]; exact hd)
      rw [hset, if_neg (hnE x (List.mem_of_getElem? ht))]
      exact hstage t x ht
    · obtain ⟨hw, ht1⟩ := aguard_run hmask hg
      rw [if_pos hw]
      refine .inl ?_
      rcases h with ⟨s0, x0, hs0, hx0, hop⟩ | ⟨hnE, hop⟩
      · -- it turns the heap
        have hss : s0 = s := by
          rcases Nat.lt_trichotomy s0 s with h1 | h1 | h1
          · have := (hstage s0 x0 hs0).2 h1
            rw [hx0, hun] at this
            cases this
          · exact h1
          · have hsl : s < E.length := Nat.lt_trans h1 (List.getElem?_eq_some_iff.1 hs0).1
            have hxs : E[s]? = some E[s] := List.getElem?_eq_getElem hsl
            have hb := h5 s0 x0 hs0 E[s] (by rw [List.mem_iff_getElem?]; exact ⟨s, by rw [List.getElem?_take_of_lt h1, hxs]⟩)
            rw [hx0, nolist _ hxs] at hb
            cases hb
        subst hss
        have hsl := (List.getElem?_eq_some_iff.1 hs0).1
        refine aop_sound hT hop Mx G w act hsim ht1 _ _ (fun x H' G' w' u g1 g2 g3 g4 => ?_) (fun x H' G' w' u g1 g2 g3 g4 => g4.elim)
        obtain ⟨rfl, rfl⟩ := g4
        refine ih _ (s0 + 1) _ w' G' (by simpa using hsz) hS' hc' (by omega) (fun t y ht => ?_) (hst.trans hp g1) (by have := g1.len.2; omega) g2 (htv.put g1 hk ho hsz hx g3) (by rw [putd]; exact hd)
        rw [hset]
        by_cases hyi : y.1 = i
        · rw [if_pos hyi]
          refine ⟨fun _ => ?_, fun _ => rfl⟩
          rcases Nat.lt_or_ge t (s0 + 1) with h1 | h1
          · exact h1
          · have hb := h5 t y ht x0 (by rw [List.mem_iff_getElem?]; exact ⟨s0, by rw [List.getElem?_take_of_lt h1, hs0]⟩)
            rw [hx0, hyi] at hb
            have := ready_bef hk hS ho hbnd hb
            rw [this] at hun
            cases hun
        · rw [if_neg hyi, hstage t y ht]
          refine ⟨fun h => by omega, fun h => ?_⟩
          rcases Nat.lt_or_ge t s0 with h1 | h1
          · exact h1
          · have : t = s0 := by omega
            subst this
            rw [hs0] at ht
            cases ht
            exact absurd hx0 hyi
      · -- it leaves it
        refine aop_sound hT (hop s hs nolist norev) Mx G w act hsim ht1 _ _ (fun x H' G' w' u g1 g2 g3 g4 => ?_) (fun x H' G' w' u g1 g2 g3 g4 => g4.elim)
        obtain ⟨rfl, rfl⟩ := g4
        refine ih _ s _ w' G' (by simpa using hsz) hS' hc' hs (fun t y ht => ?_) (hst.trans hp g1) (by have := g1.len.2; omega) g2 (htv.put g1 hk ho hsz hx g3) (by rw [putd]; exact hd)
        rw [hset, if_neg (hnE y (List.mem_of_getElem? ht))]
        exact hstage t y ht

/-- A region that draws its order is sound. -/
theorem draw_sound {T : Tab} (hT : TOK P T) (hA : TAng T) (hM : TMono T) (hm : P.follows .mixedOrders = true) {id : Nat} {ops : Array Oper} (hk : okDraw ops.toList = true) {effs : List Nat} {a : List AV} {H : Heap} {K : List AV → Heap → Prop}
    (h : adraw P T ops (befs ops.toList []) effs a K ops.toList 0 [] [] [] H) {Mx : Mut} {p : Nat} {G : Gh} {w : World} {act : Act} {Q : Exit → Act → World → Prop} (hp : p ≤ H.length) (hs : Sim Mx G H w) (ht : TV w (MM Mx G H) H.length G act.tmps a)
    (hK : ∀ a' H' G' w' act', Step p Mx G H w G' H' w' → Sim Mx G' H' w' → TV w' (MM Mx G' H') H'.length G' act'.tmps a' → act'.defers = act.defers → K a' H' → Q .normal act' w') :
    (Code.region id ops true).wp P Q act w := by
  refine wp_region_any hm ?_
  obtain ⟨fin, E, Hend, e1, e2, e3, e4, e5, e6, e7⟩ := adraw_full hA hM ops.toList 0 [] [] [] H rfl (fun x hx => absurd hx List.not_mem_nil) h
  simp only [List.nil_append] at e2 e3 e5 e7
  obtain ⟨d1, d2⟩ := hs.drew
  have hrep : ∀ i, (Array.replicate ops.size false).getD i false = false := fun i => by
    by_cases hi : i < ops.size <;> simp [hi]
  have h0 : heapAt E Hend 0 = H := e3
  refine draw_run hT hk (fin := fin) (a := a) (E := E) (Hend := Hend) e5 (fun k o hk' => by have := e7 k o (by simpa using hk'); rwa [Nat.zero_add] at this) (fun x hx => by have := (e4 x hx).2; simpa using this) e2 (p := p) (Mx := Mx) (G0' := G) (H0 := H) (w0 := w) (ds := act.defers) hK
    ops.size _ 0 act _ G (by simp) (fun i o _ hl => by rw [hrep] at hl; cases hl) (by simp) (Nat.zero_le _) (fun t x _ => by rw [hrep]; simp) (by rw [h0]; exact d2.weaken hp) (by rw [h0]; exact hp) (by rw [h0]; exact d1) ?_ rfl
  rw [h0]
  refine ⟨ht.1, fun t v x h1 h2 => ?_⟩
  have := d2.rv (ht.2 t v x h1 h2)
  unfold visT
  split
  · exact this
  · rename_i j hj
    rw [hrep]
    exact this

end Go.Abs

/-
An abstract machine over values as trees: regions, code and calls are sound.
-/
namespace Go.Abs
open Go
variable {P : Program}

/-- How code is left. -/
inductive XR (w : World) (M : Mut) (n : Nat) (G : Gh) : Exit → AExit → Prop where
  | normal : XR w M n G .normal .normal
  | exit (id : Nat) : XR w M n G (.exit id) (.exit id)
  | ret : XR w M n G .ret .ret
  | pan (v : Value) (x : AV) (h : RV w M n G v x) : XR w M n G (.panic [{ v, recovered := false }]) (.pan x)

theorem aops_sound {T : Tab} (hT : TOK P T) {ops : Array Oper} {K : List AV → Heap → Prop} {E : AV → List AV → Heap → Prop} {Mx : Mut} {p : Nat} {G0' : Gh} {H0 : Heap} {w0 : World} {ds : List Deferred} {Q : Exit → Act → World → Prop}
    (hK : ∀ a' H' G' w' act', Step p Mx G0' H0 w0 G' H' w' → Sim Mx G' H' w' → TV w' (MM Mx G' H') H'.length G' act'.tmps a' → act'.defers = ds → K a' H' → Q .normal act' w')
    (hE : ∀ x a' H' G' w' act' v, Step p Mx G0' H0 w0 G' H' w' → Sim Mx G' H' w' → TV w' (MM Mx G' H') H'.length G' act'.tmps a' → act'.defers = ds → RV w' (MM Mx G' H') H'.length G' v x → E x a' H' → Q (.panic [{ v, recovered := false }]) act' w') :
    ∀ (l : List Oper) (k : Nat) (a : List AV) (H : Heap), (∀ i, l[i]? = ops[k + i]?) → aops P T ops K E l a H → ∀ G w (act : Act), Step p Mx G0' H0 w0 G H w → p ≤ H.length → Sim Mx G H w → TV w (MM Mx G H) H.length G act.tmps a → act.defers = ds →
      wpOps P ops Q (List.range' k l.length) act w
  | [], k, a, H, _, h, G, w, act, hst, hp, hs, ht, hd => hK a H G w act hst hs ht hd h
  | o :: r, k, a, H, hl, h, G, w, act, hst, hp, hs, ht, hd => by
    have hk : ops[k]? = some o := by have := hl 0; simpa using this.symm
    have hl' : ∀ i, r[i]? = ops[k + 1 + i]? := fun i => by have := hl (i + 1); simp only [List.getElem?_cons_succ] at this; rw [this]; congr 1; omega
    have putd : ∀ (ac : Act) dst v, (ac.put dst v).defers = ac.defers := fun ac dst v => by cases dst <;> rfl
    have ih := aops_sound hT (ops := ops) hK hE r (k + 1)
    simp only [List.length_cons, List.range'_succ, wpOps, hk]
    -- the operation is carried out
    have run : ∀ a1, TV w (MM Mx G H) H.length G act.tmps a1 → aop P T o a1 H (fun v H' => aops P T ops K E r (aput a1 o.dst v) H') (fun v H' => E v a1 H') → o.wp P act w (wpOps P ops Q (List.range' (k + 1) r.length)) Q := by
      intro a1 ht1 h1
      refine aop_sound hT h1 Mx G w act hs ht1 _ _ (fun x H' G' w' v g1 g2 g3 g4 => ?_) (fun x H' G' w' v g1 g2 g3 g4 => ?_)
      · exact ih _ H' hl' g4 G' w' _ (hst.trans hp g1) (by have := g1.len.2; omega) g2 (tv_put (g1.tv ht1) g3) (by rw [putd]; exact hd)
      · exact hE x a1 H' G' w' act v (hst.trans hp g1) g2 (g1.tv ht1) hd g3 g4
    have skip : ∀ a1, TV w (MM Mx G H) H.length G act.tmps a1 → aops P T ops K E r (aput a1 o.dst (.tuple [])) H → wpOps P ops Q (List.range' (k + 1) r.length) (act.put o.dst undef) w := by
      intro a1 ht1 h1
      exact ih _ H hl' h1 G w _ hst hp hs (tv_put ht1 (.tuple _ _ _ _ rfl (fun i v x h => by simp at h))) (by rw [putd]; exact hd)
    simp only [aops, astep, forceV_eq, forceS_eq] at h
    split at h
    · rename_i hg
      have hw : Region.wanted o (yielded ops act.tmps) = true := by simp [Region.wanted, hg]
      rw [if_pos hw]
      exact .inl (run a ht h)
    · rename_i j want hg
      split at h
      · exact h.elim
      · rename_i d hdst
        have hy : yielded ops act.tmps j = match act.tmps[d]? with | some (.bool b) => some b | _ => none := by
          simp only [yielded, hdst, Option.bind_some]
          rfl
        split at h
        · rename_i b hb
          obtain ⟨v, hv, hr⟩ := tmp_at ht hb (by nofun)
          have hvb := hr.bool_inv
          subst hvb
          rw [hv] at hy
          simp only at hy
          have hw : Region.wanted o (yielded ops act.tmps) = (b == want) := by simp [Region.wanted, hg, hy]
          rw [hw]
          have hset : TV w (MM Mx G H) H.length G act.tmps (a.set d (.bool b)) := tv_set_same ht (fun u hu => by rw [hv] at hu; cases hu; exact .bool ..)
          cases b
          · cases want
            · rw [if_pos (by rfl)]; exact .inl (run _ hset h)
            · rw [if_neg (by decide)]; exact skip _ hset h
          · cases want
            · rw [if_neg (by decide)]; exact skip _ hset h
            · rw [if_pos (by rfl)]; exact .inl (run _ hset h)
        · rename_i vs hb
          obtain ⟨v, hv, hr⟩ := tmp_at ht hb (by nofun)
          obtain ⟨cs, hcs, _⟩ := hr.tuple_inv
          subst hcs
          rw [hv] at hy
          simp only at hy
          have hw : Region.wanted o (yielded ops act.tmps) = false := by simp [Region.wanted, hg, hy]
          rw [if_neg (by rw [hw]; simp)]
          exact skip a ht h
        · exact h.elim


theorem litCond_tv {w : World} {M : Mut} {n : Nat} {G : Gh} {act : Act} {a : List AV} (ht : TV w M n G act.tmps a) {c : Operand} {b : Bool} (hc : aeval a c = .bool b) : TV w M n G act.tmps (litCond a c b) := by
  cases c with
  | tmp t =>
    obtain ⟨v, hv, hr⟩ := tmp_at ht (show a.getD t .any = .bool b from hc) (by nofun)
    exact tv_set_same ht (fun u hu => by rw [hv] at hu; cases hu; exact hr)
  | _ => exact ht

/-- Code, from a state on. -/
def CodeS (P : Program) (pin : Nat) (c : Code) (K : KT) (a : List AV) (H : Heap) : Prop :=
  ∀ Mx G w (act : Act), pin ≤ H.length → Sim Mx G H w → TV w (MM Mx G H) H.length G act.tmps a → ∀ Q : Exit → Act → World → Prop,
    (∀ e e' a' H' G' w' (act' : Act), Step pin Mx G H w G' H' w' → Sim Mx G' H' w' → TV w' (MM Mx G' H') H'.length G' act'.tmps a' → act'.defers = act.defers → XR w' (MM Mx G' H') H'.length G' e e' → K e' a' H' → Q e act' w') → c.wp P Q act w

theorem aloop_sound {pin : Nat} {c : Code} {step : KT → List AV → Heap → Prop} (hstep : ∀ K a H, step K a H → CodeS P pin c K a H) (keep : List Nat) (K : KT) :
    ∀ (n : Nat) (a : List AV) (H : Heap), aloop step (agc pin keep) K n a H → ∀ Mx G w (act : Act), pin ≤ H.length → Sim Mx G H w → TV w (MM Mx G H) H.length G act.tmps a → ∀ Q : Exit → Act → World → Prop,
    (∀ e e' a' H' G' w' (act' : Act), Step pin Mx G H w G' H' w' → Sim Mx G' H' w' → TV w' (MM Mx G' H') H'.length G' act'.tmps a' → act'.defers = act.defers → XR w' (MM Mx G' H') H'.length G' e e' → K e' a' H' → Q e act' w') →
    Code.rounds P c Q n act w
  | 0, a, H, h => h.elim
  | n + 1, a, H, h => by
    intro Mx G w act hp hs ht Q hQ
    have ih := aloop_sound hstep keep K n
    rw [rounds_succ]
    refine hstep _ a H h Mx G w act hp hs ht _ (fun e e' a' H' G' w' act' g1 g2 g3 g4 g5 g6 => ?_)
    cases g5 with
    | normal =>
      simp only [Exit.then]
      obtain ⟨G2, k1, k2, k3, k4⟩ := agc_sound keep g1.len.2 g2 g3
      exact ih _ _ g6 Mx G2 w' act' k4 k1 k2 Q (fun e e' a' H2 G3 w3 act3 m1 m2 m3 m4 m5 m6 => hQ e e' a' H2 G3 w3 act3 ((g1.trans (Nat.le_refl _) k3).trans (Nat.le_refl _) m1) m2 m3 (m4.trans g4) m5 m6)
    | exit id => exact hQ _ _ a' H' G' w' act' g1 g2 g3 g4 (.exit id) g6
    | ret => exact hQ _ _ a' H' G' w' act' g1 g2 g3 g4 .ret g6
    | pan v x hr => exact hQ _ _ a' H' G' w' act' g1 g2 g3 g4 (.pan v x hr) g6

theorem acode_sound {T : Tab} (hT : TOK P T) (hA : TAng T) (hM : TMono T) (hm : P.follows .mixedOrders = true) (pin N : Nat) : ∀ (c : Code) (le : LE) (K : KT) (a : List AV) (H : Heap), acode P T pin N c le K a H → CodeS P pin c K a H
  | .skip, le, K, a, H, h => fun Mx G w act hp hs ht Q hQ => wp_skip (hQ _ _ a H G w act (Step.refl.weaken hp) hs ht rfl .normal h)
  | .exit id, le, K, a, H, h => fun Mx G w act hp hs ht Q hQ => wp_exit (hQ _ _ a H G w act (Step.refl.weaken hp) hs ht rfl (.exit id) h)
  | .ret, le, K, a, H, h => fun Mx G w act hp hs ht Q hQ => wp_ret (hQ _ _ a H G w act (Step.refl.weaken hp) hs ht rfl .ret h)
  | .region id ops draw, le, K, a, H, h => fun Mx G w act hp hs ht Q hQ => by
    cases draw with
    | true =>
      simp only [acode, cond_true, forceS_eq, forceH_eq, forceN_eq] at h
      cases hk : okDraw ops.toList with
      | false => rw [hk] at h; exact h.elim
      | true =>
        rw [hk] at h
        obtain ⟨effs, h⟩ := h
        exact draw_sound hT hA hM hm hk h hp hs ht (fun a' H' G' w' act' g1 g2 g3 g4 g5 => hQ _ _ a' H' G' w' act' g1 g2 g3 g4 .normal g5)
    | false =>
      simp only [acode, forceS_eq, forceH_eq] at h
      refine wp_region ?_
      rw [List.range_eq_range']
      have := aops_sound hT (ops := ops) (p := pin) (Mx := Mx) (G0' := G) (H0 := H) (w0 := w) (ds := act.defers) (Q := Q) (K := fun a H => K .normal a H) (E := fun v a H => K (.pan v) a H)
        (fun a' H' G' w' act' g1 g2 g3 g4 g5 => hQ _ _ a' H' G' w' act' g1 g2 g3 g4 .normal g5)
        (fun x a' H' G' w' act' v g1 g2 g3 g4 g5 g6 => hQ _ _ a' H' G' w' act' g1 g2 g3 g4 (.pan v x g5) g6)
        ops.toList 0 a H (by simp) h G w act (Step.refl.weaken hp) hp hs ht rfl
      simpa using this
  | .seq x y, le, K, a, H, h => fun Mx G w act hp hs ht Q hQ => by
    refine wp_seq ?_
    refine acode_sound hT hA hM hm pin N x _ _ a H h Mx G w act hp hs ht _ (fun e e' a' H' G' w' act' g1 g2 g3 g4 g5 g6 => ?_)
    cases g5 with
    | normal =>
      exact acode_sound hT hA hM hm pin N y le K a' H' g6 Mx G' w' act' g1.len.2 g2 g3 Q (fun e e' a2 H2 G2 w2 act2 m1 m2 m3 m4 m5 m6 => hQ e e' a2 H2 G2 w2 act2 (g1.trans (Nat.le_refl _) m1) m2 m3 (m4.trans g4) m5 m6)
    | exit id => exact hQ _ _ a' H' G' w' act' g1 g2 g3 g4 (.exit id) g6
    | ret => exact hQ _ _ a' H' G' w' act' g1 g2 g3 g4 .ret g6
    | pan v x hr => exact hQ _ _ a' H' G' w' act' g1 g2 g3 g4 (.pan v x hr) g6
  | .cond c x y, le, K, a, H, h => fun Mx G w act hp hs ht Q hQ => by
    simp only [acode] at h
    split at h
    · rename_i b hb
      have hv := ev ht c
      rw [hb] at hv
      have hlit := litCond_tv ht hb
      refine wp_cond hv.bool_inv ?_
      cases b
      · exact acode_sound hT hA hM hm pin N y le K _ H h Mx G w act hp hs hlit Q hQ
      · exact acode_sound hT hA hM hm pin N x le K _ H h Mx G w act hp hs hlit Q hQ
    · exact h.elim
  | .block id c, le, K, a, H, h => fun Mx G w act hp hs ht Q hQ => by
    refine wp_block ?_
    refine acode_sound hT hA hM hm pin N c _ _ a H h Mx G w act hp hs ht _ (fun e e' a' H' G' w' act' g1 g2 g3 g4 g5 g6 => ?_)
    cases g5 with
    | normal => exact hQ _ _ a' H' G' w' act' g1 g2 g3 g4 .normal g6
    | exit id' =>
      simp only [Exit.inBlock]
      by_cases hid : id' = id
      · simp only [hid, if_true] at g6 ⊢
        exact hQ _ _ a' H' G' w' act' g1 g2 g3 g4 .normal g6
      · simp only [hid, if_false] at g6 ⊢
        exact hQ _ _ a' H' G' w' act' g1 g2 g3 g4 (.exit id') g6
    | ret => exact hQ _ _ a' H' G' w' act' g1 g2 g3 g4 .ret g6
    | pan v x hr => exact hQ _ _ a' H' G' w' act' g1 g2 g3 g4 (.pan v x hr) g6
  | .loop c, le, K, a, H, h => fun Mx G w act hp hs ht Q hQ => by
    obtain ⟨G2, k1, k2, k3, k4⟩ := agc_sound (liveIn (.loop c) le) hp hs ht
    refine wp_loop_rounds N ?_
    exact aloop_sound (fun K a H h => acode_sound hT hA hM hm pin N c _ K a H h) (liveIn (.loop c) le) K N _ _ h Mx G2 w act k4 k1 k2 Q (fun e e' a' H2 G3 w3 act3 m1 m2 m3 m4 m5 m6 => hQ e e' a' H2 G3 w3 act3 (k3.trans (Nat.le_refl _) m1) m2 m3 m4 m5 m6)
  | .rangeFunc .., le, K, a, H, h => h.elim
  | .scope c, le, K, a, H, h => h.elim
  | .label l, le, K, a, H, h => h.elim
  | .goto l, le, K, a, H, h => h.elim
  | .refuse y, le, K, a, H, h => h.elim

/-! ### Calls -/
theorem aresults_sound {Mx : Mut} {G : Gh} {H : Heap} {w : World} (hs : Sim Mx G H w) {tmps : Array Value} {a : List AV} (ht : TV w (MM Mx G H) H.length G tmps a) : ∀ (rs : List ResultVar) (vs : List AV), aresults P a H rs = some vs →
    ∃ us : List Value, (rs.mapM (m := Sem) fun | .tmp t => pure (tmps.getD t undef) | .cell a t => do loadVar t (← asAddr (tmps.getD a undef))).run P w = .ok us w ∧ us.length = vs.length ∧ ∀ (i : Nat) u x, us[i]? = some u → vs[i]? = some x → RV w (MM Mx G H) H.length G u x
  | [], vs, h => by
    simp only [aresults, Option.some.injEq] at h
    subst h
    exact ⟨[], rfl, rfl, fun i u x h => by simp at h⟩
  | r :: rs, vs, h => by
    simp only [aresults] at h
    split at h
    · rename_i v vs' hv hvs
      injection h with h
      subst h
      obtain ⟨us, h1, h2, h3⟩ := aresults_sound hs ht rs vs' hvs
      have hev : ∀ t, RV w (MM Mx G H) H.length G (tmps.getD t undef) (a.getD t .any) := fun t => ev (act := { tmps, defers := [] }) ht (.tmp t)
      obtain ⟨u, hu, hr⟩ : ∃ u, (match r with | .tmp t => pure (tmps.getD t undef) | .cell a t => do loadVar t (← asAddr (tmps.getD a undef)) : Sem Value).run P w = .ok u w ∧ RV w (MM Mx G H) H.length G u v := by
        cases r with
        | tmp t =>
          simp only [Option.some.injEq] at hv
          subst hv
          exact ⟨_, rfl, hev t⟩
        | cell p t =>
          simp only at hv
          split at hv
          · rename_i cs n hc hty
            split at hv
            · rename_i hn
              simp only [Option.some.injEq] at hv
              subst hv
              obtain ⟨k, o', hva, hcell⟩ := cellsAt_sound hs (hev p) hc
              obtain ⟨u, e1, e2⟩ := (run_loadVar (P := P) (t := t) hcell).1 n hty hn
              exact ⟨u, by simp [hva, asAddr, e1], e2⟩
            · cases hv
          · rename_i c r n hc hty
            simp only [Option.some.injEq] at hv
            subst hv
            obtain ⟨k, o', hva, hcell⟩ := cellsAt_sound hs (hev p) hc
            obtain ⟨u, e1, e2⟩ := (run_loadVar (P := P) (t := t) hcell).2 n _ _ hty rfl
            exact ⟨u, by simp [hva, asAddr, e1], e2⟩
          · cases hv
      refine ⟨u :: us, ?_, by simp [h2], fun i u' x e1 e2 => ?_⟩
      · rw [List.mapM_cons, Sem.run_bind, hu]
        simp only [Result.andThen_ok]
        rw [Sem.run_bind, h1]
        rfl
      · cases i with
        | zero => simp only [List.getElem?_cons_zero, Option.some.injEq] at e1 e2; subst e1; subst e2; exact hr
        | succ i => simp only [List.getElem?_cons_succ] at e1 e2; exact h3 i u' x e1 e2
    · cases h

/-- A function's body is what it comes to. -/
theorem abody_sound {T : Tab} (hT : TOK P T) (hA : TAng T) (hM : TMono T) (hm : P.follows .mixedOrders = true) {f : FuncId} {fn : Func} (hf : P.funcs[f]? = some fn) (hent : Enters P f) {N : Nat} {args : List AV} {H : Heap} {Q : AOut → Heap → Prop} (h : abody P T H.length N fn args H Q) : FOK P f args H Q := by
  refine ⟨hent, fun Mx G w cargs hs ht => ?_⟩
  unfold abody at h
  split at h
  · exact h.elim
  · rename_i c hc
    refine calls_of_wp hf hc ?_
    have htv : TV w (MM Mx G H) H.length G (cargs ++ Array.replicate (fn.ntmps - cargs.size) undef) (args ++ List.replicate (fn.ntmps - args.length) (.tuple [])) := by
      refine ⟨by simp [ht.1], fun i v x h1 h2 => ?_⟩
      by_cases hi : i < args.length
      · rw [List.getElem?_append_left hi] at h2
        rw [Array.getElem?_append_left (by rw [ht.1]; exact hi)] at h1
        exact ht.2 i v x h1 h2
      · rw [List.getElem?_append_right (by omega)] at h2
        rw [Array.getElem?_append_right (by rw [ht.1]; omega)] at h1
        have e1 := (List.mem_replicate.1 (List.mem_of_getElem? h2)).2
        have e2 : v = undef := by
          have := Array.mem_of_getElem? h1
          exact (Array.mem_replicate.1 this).2
        subst e1; subst e2
        exact .tuple _ _ _ _ rfl (fun i v x h => by simp at h)
    refine acode_sound hT hA hM hm H.length N c _ _ _ H h Mx G w _ (Nat.le_refl _) hs htv _ (fun e e' a' H' G' w' act' g1 g2 g3 g4 g5 g6 => ?_)
    have fin : ∀ vs, aresults P a' H' fn.results.toList = some vs → Q (.ret (packA (agc H.length (List.range vs.length) vs H').1)) (agc H.length (List.range vs.length) vs H').2 →
        act'.defers = [] ∧ ∃ v, (results fn act'.tmps).run P w' = .ok v w' ∧ ∃ out H'' G'', Step H.length Mx G H w G'' H'' w' ∧ Sim Mx G'' H'' w' ∧ ER w' (MM Mx G'' H'') H''.length G'' (.returned v) out ∧ Q out H'' := by
      intro vs hvs hq
      obtain ⟨us, h1, h2, h3⟩ := aresults_sound g2 g3 fn.results.toList vs hvs
      have htv : TV w' (MM Mx G' H') H'.length G' us.toArray vs := ⟨by simpa using h2, fun i v x e1 e2 => h3 i v x (by simpa using e1) e2⟩
      obtain ⟨G2, k1, k2, k3, k4⟩ := agc_sound (List.range vs.length) g1.len.2 g2 htv
      generalize agc H.length (List.range vs.length) vs H' = gg at *
      refine ⟨g4, if h : us.toArray.size = 1 then us.toArray[0] else .tuple us.toArray, ?_, _, gg.2, G2, g1.trans (Nat.le_refl _) k3, k1, ?_, hq⟩
      · have hm : (fn.results.mapM (m := Sem) fun | .tmp t => pure (act'.tmps.getD t undef) | .cell a t => do loadVar t (← asAddr (act'.tmps.getD a undef))).run P w' = .ok us.toArray w' := by
          rw [← Array.toArray_toList (xs := fn.results), List.mapM_toArray, Sem.run_map, h1]
          rfl
        refine (Sem.run_bind (P := P) (w := w') (x := fn.results.mapM (m := Sem) fun | .tmp t => pure (act'.tmps.getD t undef) | .cell a t => do loadVar t (← asAddr (act'.tmps.getD a undef))) (f := fun vs => pure (if h : vs.size = 1 then vs[0] else .tuple vs))).trans ?_
        rw [hm]
        rfl
      · refine .ret _ _ ?_
        obtain ⟨hz, hr⟩ := k2
        generalize gg.1 = vs2 at hz hr
        match us, vs2, hz, hr with
        | [], [], _, _ => exact .tuple _ _ _ _ rfl (fun i v x h => by simp at h)
        | [u], [x], _, hr => simpa [packA] using hr 0 u x rfl rfl
        | u :: u2 :: us, x :: x2 :: vs, hz, hr =>
          rw [dif_neg (by simp)]
          exact .tuple _ _ _ _ hz (fun i v y e1 e2 => hr i v y e1 e2)
        | [_], _ :: _ :: _, hz, _ => simp at hz
        | _ :: _ :: _, [_], hz, _ => simp at hz
        | [], _ :: _, hz, _ => simp at hz
        | _ :: _, [], hz, _ => simp at hz
    cases g5 with
    | normal =>
      simp only at g6
      split at g6
      · rename_i vs hvs; exact fin vs hvs g6
      · exact g6.elim
    | exit id => exact g6.elim
    | ret =>
      simp only at g6
      split at g6
      · rename_i vs hvs; exact fin vs hvs g6
      · exact g6.elim
    | pan v x hr =>
      have htv : TV w' (MM Mx G' H') H'.length G' #[v] [x] := ⟨rfl, fun i u y e1 e2 => by
        cases i with
        | zero => simp at e1 e2; subst e1; subst e2; exact hr
        | succ i => simp at e2⟩
      obtain ⟨G2, k1, k2, k3, k4⟩ := agc_sound [0] g1.len.2 g2 htv
      simp only at g6
      generalize agc H.length [0] [x] H' = gg at *
      refine ⟨g4, _, gg.2, G2, g1.trans (Nat.le_refl _) k3, k1, .pan v _ ?_, g6⟩
      obtain ⟨hz, hr⟩ := k2
      generalize gg.1 = vs2 at hz hr
      match vs2, hz, hr with
      | [y], _, hr => exact hr 0 v y rfl rfl
      | [], hz, _ => simp at hz
      | _ :: _ :: _, hz, _ => simp at hz

end Go.Abs

