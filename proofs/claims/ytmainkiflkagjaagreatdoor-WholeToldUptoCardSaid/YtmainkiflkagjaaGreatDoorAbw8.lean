/-
(*bytes.Buffer).Write is what it comes to.
-/
import Derived.Test.YtmainkiflkagjaaGreatDoorAbw6
import Derived.Test.YtmainkiflkagjaaGreatDoorAbw7
import Derived.Shelf.Spec.SlicesGrow
namespace Go.Abs
open Go Go.Proofs

def g85 : WSpec := fun args l bad K => match args with
  | [.slice es] => (∀ el ∈ es, el.length = 1) ∧ l.length + es.length ≤ 70368744177664 ∧ K (.tuple [.int .i64 es.length, .nilIface]) (l ++ es) bad
  | _ => False
theorem g85_det (args : List AV) (l : List (List AV)) (bad : Bool) : WDet (g85 args l bad) := by
  unfold g85
  repeat' (first | exact WDet.no | exact WDet.at _ _ _ | refine WDet.and ?_ | refine WDet.ex fun _ => ?_ | split)

theorem write_sim {Mx : Mut} {G : Gh} {w w' : World} {l es : List (List AV)} {bad : Bool} {k : Nat} {cv : Array Value} {t : TypeId} {v0 : Value} {ow : Bool} {ob : Option Nat} {bs news : List Value}
    (hs : Sim Mx G [wvar 1 bad, wrow l] w) (hG0 : G 0 = some (.blk k)) (hk : w.heap[k]? = some (.cells cv t (0, 0))) (hsz : cv.size = 4) (hb3 : cv[3]? = some (.bool bad)) (hG1 : G 1 = some (.row v0 1 ow)) (how : (Loc.row v0 1 ow).block = ob)
    (hle : ∀ (i : Nat) el, (l ++ es)[i]? = some el → el.length = 1) (hlen : (bs ++ news).length = (l ++ es).length)
    (hone : ∀ u ∈ bs ++ news, u.oneCell' = true)
    (hR : ∀ (i : Nat) el (j : Nat) x u, (l ++ es)[i]? = some el → el[j]? = some x → (bs ++ news)[i * 1 + j]? = some u → RV w (MM Mx G [wvar 1 bad, wrow l]) 0 G0 u x)
    (ho : WOut w k 0 t (fun i => cv[i]?) 5 ob (bs ++ news) w') :
    ∃ G', Step 2 Mx G [wvar 1 bad, wrow l] w G' [wvar 2 bad, .dead, wrow (l ++ es)] w' ∧ Sim Mx G' [wvar 2 bad, .dead, wrow (l ++ es)] w' := by
  obtain ⟨v', ob', h3, hbr, hob⟩ := ho.buf
  obtain ⟨cs', hk', q0, q1, q2, q3⟩ := h3
  have hcs4 : cs'.size = 4 := by
    have e3 := q3 3 (.inr (by omega))
    have e4 := q3 4 (.inr (by omega))
    dsimp only at e3 e4
    rw [hb3] at e3
    rw [Array.getElem?_eq_none (by omega : cv.size ≤ 4)] at e4
    have := (Array.getElem?_eq_some_iff.1 e3).1
    have := Array.getElem?_eq_none_iff.1 e4
    omega
  obtain ⟨own, hown, hv1, hof⟩ : ∃ own, (Loc.row v' 1 own).block = ob' ∧ v'.oneCell' = true ∧ (ob' = none → own = false) := by
    rcases hbr with ⟨_, h2, A, rfl⟩ | ⟨g, cap, cur, h2, rfl, _⟩
    · exact ⟨false, by rw [h2]; rfl, rfl, fun _ => rfl⟩
    · exact ⟨true, by rw [h2]; rfl, rfl, fun h => by rw [h2] at h; cases h⟩
  have hkk : ∀ kk, ob' = some kk → kk ≠ k := by
    rcases hbr with ⟨_, h2, _⟩ | ⟨g, cap, cur, h2, _, _, _, _, _, _, hgb⟩
    · intro kk h; rw [h2] at h; cases h
    · intro kk h; rw [h2] at h; cases h; exact hgb
  have hkw := heap_lt hk
  let G' : Gh := fun b => match b with | 0 => some (.blk k) | 2 => some (.row v' 1 own) | _ => none
  have hG'c : ∀ b l, G' b = some l → (b = 0 ∧ l = .blk k) ∨ (b = 2 ∧ l = .row v' 1 own) := by
    intro b l h
    match b, h with
    | 0, h => cases h; exact .inl ⟨rfl, rfl⟩
    | 1, h => cases h
    | 2, h => cases h; exact .inr ⟨rfl, rfl⟩
    | b + 3, h => cases h
  have hobx : ∀ kk i, ob' = some kk → ¬ Mx kk i := by
    intro kk i h hm
    rcases hob with e | e
    · rw [e] at h
      exact hs.ext 1 _ kk i hG1 (by rw [how]; exact h) hm
    · have := e kk h
      have := hs.lt kk i hm
      omega
  have hstill : ∀ kk i v, w.cell? ⟨kk, i, none⟩ = some v → ¬ MM Mx G [wvar 1 bad, wrow l] kk i → w'.cell? ⟨kk, i, none⟩ = some v ∧ ¬ MM Mx G' [wvar 2 bad, .dead, wrow (l ++ es)] kk i := by
    intro kk i v hc hm
    have hkkw := cell_lt hc
    have n1 : kk ≠ k := fun e => hm (.inr ⟨0, _, _, hG0, rfl, by rw [e]; rfl, trivial⟩)
    have n2 : ob ≠ some kk := fun e => hm (.inr ⟨1, _, _, hG1, rfl, by rw [how]; exact e, .inl rfl⟩)
    refine ⟨(World.cell?_of_block (a := ⟨kk, i, none⟩) (ho.far kk hkkw n1 n2)).trans hc, ?_⟩
    rintro (hx | ⟨b, l0, o, g1, g2, g3, g4⟩)
    · exact hm (.inl hx)
    · rcases hG'c b l0 g1 with ⟨rfl, rfl⟩ | ⟨rfl, rfl⟩
      · simp only [Loc.block, Option.some.injEq] at g3
        exact n1 g3.symm
      · rw [hown] at g3
        rcases hob with e | e
        · exact n2 (e ▸ g3)
        · have := e kk g3
          omega
  refine ⟨G', ⟨ho.os, ho.tape, ho.output, ho.size, ⟨Nat.le_refl _, by simp⟩, fun kk hkk hn => ho.far kk hkk (fun e => hn 0 _ hG0 (by rw [e]; rfl)) (fun e => hn 1 _ hG1 (by rw [how]; exact e)), hstill, fun b l0 hb h => ?_, fun b l0 kk h hkb => ?_⟩, ⟨fun b l0 h => ?_, fun b o h => ?_, fun b b' l1 l2 kk h1 h2 k1 k2 => ?_, fun b l0 kk i h hkb => ?_, fun kk i h => Nat.lt_of_lt_of_le (hs.lt kk i h) ho.size⟩⟩
  · rcases hG'c b l0 h with ⟨rfl, rfl⟩ | ⟨rfl, rfl⟩
    · exact hG0
    · omega
  · rcases hG'c b l0 h with ⟨rfl, rfl⟩ | ⟨rfl, rfl⟩
    · exact .inl ⟨0, _, hG0, hkb⟩
    · rw [hown] at hkb
      rcases hob with e | e
      · exact .inl ⟨1, _, hG1, by rw [how, ← e]; exact hkb⟩
      · exact .inr (e kk hkb)
  · rcases hG'c b l0 h with ⟨rfl, rfl⟩ | ⟨rfl, rfl⟩ <;> simp
  · match b, h with
    | 0, h =>
      cases h
      refine ⟨k, cs', t, rfl, hk', hcs4, fun i v x e1 e2 => ?_⟩
      match i, e2 with
      | 0, e2 =>
        cases e2
        rw [q0] at e1
        cases e1
        exact ⟨hv1, .row _ _ _ _ (by simp) hv1 (fun l0 hl0 => by cases hl0; exact ⟨_, _, rfl⟩)⟩
      | 1, e2 =>
        cases e2
        rw [q1] at e1
        cases e1
        exact ⟨rfl, .int ..⟩
      | 2, e2 =>
        cases e2
        rw [q2] at e1
        cases e1
        exact ⟨rfl, .int ..⟩
      | 3, e2 =>
        cases e2
        have e3 := (q3 3 (.inr (by omega))).symm.trans e1
        dsimp only at e3
        rw [hb3] at e3
        cases e3
        exact ⟨rfl, .bool ..⟩
      | i + 4, e2 => simp at e2
    | 1, h => cases h; rfl
    | 2, h =>
      cases h
      refine ⟨by decide, hle, ?_⟩
      rcases hbr with ⟨h1, h2, A, rfl⟩ | ⟨g, cap, cur, h2, rfl, hg, c1, c2, c3, c4, c5⟩
      · have : l ++ es = [] := List.eq_nil_of_length_eq_zero (by rw [← hlen, h1]; rfl)
        refine .inl ⟨this, A, ?_⟩
        rw [← hof h2]
        rfl
      · refine .inr ⟨g, cap, cur, ?_, hg, by omega, c2, by omega, fun i u hu hi => ?_, fun i el j x u e1 e2 e3 => ?_⟩
        · rw [← hlen]
          cases own with
          | true => rfl
          | false => rw [h2] at hown; cases hown
        · have : (bs ++ news)[i]? = some u := by rw [← c4, List.getElem?_take_of_lt (by omega), Array.getElem?_toList]; exact hu
          exact hone u (List.mem_of_getElem? this)
        · have hi := (List.getElem?_eq_some_iff.1 e1).1
          have hj := (List.getElem?_eq_some_iff.1 e2).1
          have := hle i el e1
          have h4 : (bs ++ news)[i * 1 + j]? = some u := by rw [← c4, List.getElem?_take_of_lt (by omega), Array.getElem?_toList]; exact e3
          exact (hR i el j x u e1 e2 h4).mono hstill (Nat.le_refl _) (fun _ _ _ h => h)
    | b + 3, h => simp at h
  · rcases hG'c b l1 h1 with ⟨rfl, rfl⟩ | ⟨rfl, rfl⟩ <;> rcases hG'c b' l2 h2 with ⟨rfl, rfl⟩ | ⟨rfl, rfl⟩
    · rfl
    · rw [hown] at k2
      simp only [Loc.block, Option.some.injEq] at k1
      exact absurd k1.symm (hkk kk k2)
    · rw [hown] at k1
      simp only [Loc.block, Option.some.injEq] at k2
      exact absurd k2.symm (hkk kk k1)
    · rfl
  · rcases hG'c b l0 h with ⟨rfl, rfl⟩ | ⟨rfl, rfl⟩
    · exact hs.ext 0 _ kk i hG0 hkb
    · rw [hown] at hkb
      exact hobx kk i hkb

theorem slice_apart {w : World} {M : Mut} {n : Nat} {G : Gh} {B : Addr} {m c : Nat} {es : List (List AV)} (hx : RV w M n G (.slice (some B) m c) (.slice es)) (hne : es ≠ []) (hes : ∀ el ∈ es, el.length = 1) (hm : ∀ i, M B.block i) : False := by
  generalize hv : Value.slice (some B) m c = v at hx
  cases hx with
  | slice0 => exact hne rfl
  | slice n G kk off cap sz es f hsz' hc hr hcap =>
    cases hv
    cases es with
    | nil => exact hne rfl
    | cons el r =>
      have h1 := hes el List.mem_cons_self
      cases el with
      | nil => simp at h1
      | cons x el => exact (hc 0 _ 0 x rfl rfl).2.1 (hm _)

set_option maxRecDepth 100000 in
theorem s85 : SGood Tryz.prog 84 (writerT g85) := writerT_good g85_det fun args l bad Q h => by
  unfold g85 at h
  split at h
  case h_2 => exact h.elim
  rename_i es
  obtain ⟨hes, hbound, hQ⟩ := h
  refine ⟨entersOf Tryz.func84 (by kernel_rfl) rfl, fun Mx G w cargs hs ht => ?_⟩
  obtain ⟨htz, hrv⟩ := ht
  obtain ⟨cl⟩ := cargs
  match cl, htz with
  | [u0, u1], _ =>
    have ho0 := hs.obj 0 _ rfl
    have ho1 := hs.obj 1 _ rfl
    obtain ⟨k, cv, t, hG0, hk, hsz, hcell⟩ := ho0
    have hsz4 : cv.size = 4 := hsz
    obtain rfl := (hrv 0 u0 (.ptr 0 0) rfl rfl).ptr_inv hG0
    obtain ⟨_, hle, hrow⟩ := ho1
    have c0 : cv[0]? = some cv[0] := Array.getElem?_eq_getElem (by omega)
    have c1 : cv[1]? = some cv[1] := Array.getElem?_eq_getElem (by omega)
    have c2 : cv[2]? = some cv[2] := Array.getElem?_eq_getElem (by omega)
    have c3 : cv[3]? = some cv[3] := Array.getElem?_eq_getElem (by omega)
    have r1 := (hcell 1 _ _ c1 rfl).2.int_inv
    have r2 := (hcell 2 _ _ c2 rfl).2.int_inv
    have r3 := (hcell 3 _ _ c3 rfl).2.bool_inv
    rw [r1] at c1; rw [r2] at c2; rw [r3] at c3
    have r0 := fun {s : Value} {sz : Nat} {ow : Bool} (h : G 1 = some (.row s sz ow)) => (hcell 0 _ (.row 1) c0 rfl).2.row_inv h
    obtain ⟨A, c, news, hv, hnl, hn1, hn2, hn3⟩ := (elems_sound hs (hrv 1 u1 (.slice es) rfl rfl) (es := es) rfl).flat (sz := 1) (by decide) (fun i el h => hes el (List.mem_of_getElem? h))
    subst hv
    rw [Nat.mul_one] at hnl
    -- the buffer's bytes
    obtain ⟨v0, ow, bs, hG1, hbr, hbl, hb1, hbR⟩ : ∃ v0 ow bs, G 1 = some (.row v0 1 ow) ∧ BRow w k 5 bs v0 (Loc.row v0 1 ow).block ∧ bs.length = l.length ∧ (∀ u ∈ bs, u.oneCell' = true) ∧
        (∀ (i : Nat) el (j : Nat) x u, l[i]? = some el → el[j]? = some x → bs[i * 1 + j]? = some u → RV w (MM Mx G [wvar 1 bad, wrow l]) 0 G0 u x) := by
      rcases hrow with ⟨rfl, a, hG1⟩ | ⟨g, cap, cur, hG1, hg, h1, h2, h3, h4, h5⟩
      · exact ⟨_, _, [], hG1, .inl ⟨rfl, rfl, a, rfl⟩, rfl, fun u hu => (by cases hu), fun i el j x u h => (by simp at h)⟩
      · have hll : (cur.toList.take l.length).length = l.length := by
          have : cur.toList.length = cur.size := Array.length_toList
          rw [List.length_take, this, h3, Nat.mul_one]
          exact Nat.min_eq_left h1
        have hgk : g ≠ k := fun e => by
          subst e
          exact absurd (hs.inj 0 1 _ _ g hG0 hG1 rfl rfl) (by decide)
        refine ⟨_, _, cur.toList.take l.length, hG1, .inr ⟨g, cap, cur, rfl, by rw [hll], hg, by rw [hll]; exact h1, h2, by omega, by rw [hll], hgk⟩, hll, fun u hu => ?_, fun i el j x u e1 e2 e3 => ?_⟩
        · obtain ⟨i, hi, rfl⟩ := List.mem_iff_getElem.1 hu
          have hi' : i < l.length := by omega
          exact h4 i _ (by rw [← Array.getElem?_toList, List.getElem_take]; exact List.getElem?_eq_getElem (by rw [List.length_take] at hi; omega)) (by omega)
        · have hi := (List.getElem?_eq_some_iff.1 e1).1
          have hj := (List.getElem?_eq_some_iff.1 e2).1
          have := hle i el e1
          rw [List.getElem?_take_of_lt (by omega), Array.getElem?_toList] at e3
          exact h5 i el j x u e1 e2 e3
    have hv0 := r0 hG1
    rw [hv0] at c0
    have h3 : LibA.Three w k 0 t (fun i => cv[i]?) v0 (.int .i64 0) (.int .i8 0) := ⟨cv, hk, c0, c1, c2, fun _ _ => rfl⟩
    have hab : es.length ≠ 0 → ∃ B, A = some B ∧ B.block ≠ k ∧ ∀ j v, news[j]? = some v → w.cell? (B.add j) = some v := fun hne => by
      obtain ⟨B, rfl, hB⟩ := hn2 (fun e => hne (by simp [e]))
      have hsa := elems_sound hs (hrv 1 (.slice (some B) es.length c) (.slice es) rfl rfl) (es := es) rfl
      refine ⟨B, rfl, fun e => ?_, hB⟩
      have hx := hrv 1 (.slice (some B) es.length c) (.slice es) rfl rfl
      obtain ⟨n0, hn0⟩ : ∃ n0, es.length = n0 := ⟨_, rfl⟩
      rw [hn0] at hx hne
      exact slice_apart hx (fun e => hne (by rw [← hn0, e]; rfl)) hes (fun i => .inr ⟨0, _, _, hG0, rfl, by rw [e]; rfl, trivial⟩)
    have hrun := write_run Tryz.bufW t (fun i => cv[i]?) k 0 v0 _ 0 bs news A es.length c w h3 hbr hb1 hnl hab hn1 (by omega)
    refine Calls.mono (show Calls Tryz.prog 84 #[.pointer (some ⟨k, 0, none⟩), .slice A es.length c] w _ from hrun) fun e w' ⟨he, ho⟩ => ?_
    subst he
    have hlen : (bs ++ news).length = (l ++ es).length := by simp [hbl, hnl]
    obtain ⟨G', k1, k2⟩ := write_sim (es := es) hs hG0 hk hsz4 c3 hG1 rfl (fun i el h => by
      by_cases hi : i < l.length
      · rw [List.getElem?_append_left hi] at h; exact hle i el h
      · rw [List.getElem?_append_right (by omega)] at h; exact hes el (List.mem_of_getElem? h)) hlen (fun u hu => by
      rcases List.mem_append.1 hu with h | h
      · exact hb1 u h
      · exact hn1 u h) (rows_append (by rw [hbl, Nat.mul_one]) hle hbR hn3) ho
    refine ⟨.ret (.tuple [.int .i64 es.length, .nilIface]), _, G', k1, k2, .ret _ _ (.tuple _ _ _ _ rfl fun i v x e1 e2 => ?_), _, _, _, rfl, rfl, rfl, hQ⟩
    match i, e1, e2 with
    | 0, e1, e2 => cases e1; cases e2; exact .int ..
    | 1, e1, e2 => cases e1; cases e2; exact .nilIface ..
    | i + 2, e1, e2 => simp at e2

end Go.Abs

/-
(*msg.writer).num is what it comes to.
-/
namespace Go.Abs
open Go Go.Proofs

/-- What is written: the bytes, the mark. -/
abbrev WS := List Int × Bool
def wNum (n : Int) (s : WS) : WS := (s.1 ++ (if okI n then encI n else []), s.2 || !okI n)
/-- A method's contract by its effect. -/
def wspec (e : WS → WS) (l : List (List AV)) (bad : Bool) (K : AV → List (List AV) → Bool → Prop) : Prop :=
  ∃ m : List Int, l = bsA m ∧ (e (m, bad)).1.length ≤ 1099511627776 ∧ K (.tuple []) (bsA (e (m, bad)).1) (e (m, bad)).2
theorem wspec_det (e : WS → WS) (l : List (List AV)) (bad : Bool) : WDet (wspec e l bad) := WDet.ex fun _ => WDet.and (WDet.and (WDet.at _ _ _))

def g46 : WSpec := fun args l bad K => match args with
  | [.int .i64 n] => wspec (wNum n) l bad K
  | _ => False
theorem g46_det (args : List AV) (l : List (List AV)) (bad : Bool) : WDet (g46 args l bad) := by
  unfold g46
  split
  · exact wspec_det _ _ _
  · exact WDet.no

theorem wend {Q : AV → List (List AV) → Bool → Prop} {l : List (List AV)} {b : Bool} (h : Q (.tuple []) l b) : wOut Q (.ret (.tuple [])) [wvar 2 b, .dead, wrow l] := ⟨_, _, _, rfl, rfl, rfl, h⟩

set_option maxRecDepth 100000 in
set_option maxHeartbeats 4000000 in
theorem f46_ok (n : Int) (m : List Int) (bad : Bool) (hl : (wNum n (m, bad)).1.length ≤ 1099511627776) (T : Tab) (Q : AOut → Heap → Prop)
    (hQ : Q (.ret (.tuple [])) [wvar 2 (wNum n (m, bad)).2, .dead, wrow (bsA (wNum n (m, bad)).1)]) (N : Nat) :
    abody Tryz.prog (ext (ext T 83 (freshT g84)) 84 (writerT g85)) 2 N Tryz.f48 [.ptr 0 0, .int .i64 n] [wvar 1 bad, wrow (bsA m)] Q := by
  simp only [wNum] at hQ hl
  cases bad
  all_goals
    conv => whnf
    split
    · rename_i h1
      rw [h1] at hQ hl
      conv => whnf
      refine ⟨fun el hel => bsA_el hel, by simp only [if_true, List.length_append] at hl; rw [bsA_length, bsA_length]; omega, ?_⟩
      conv => whnf
      simp only [if_true, bsA_append] at hQ
      refine Eq.mp ?_ hQ
      kernel_rfl
    · rename_i h1
      rw [h1] at hQ hl
      conv => whnf
      refine ⟨fun el hel => (by cases hel), (by simp at hl; simp; omega), ?_⟩
      conv => whnf
      simp only [Bool.false_eq_true, if_false, bsA_append] at hQ
      refine Eq.mp ?_ hQ
      kernel_rfl

set_option maxRecDepth 100000 in
theorem s46 {T : Tab} (hT : TGood Tryz.prog T) : SGood Tryz.prog 48 (writerT g46) := writerT_good g46_det fun args l bad Q h => by
  unfold g46 at h
  split at h
  · obtain ⟨m, rfl, hl, hQ⟩ := h
    have h2 := ext_good hT (s84 hT)
    exact abody_sound (ext_good h2 s85).ok (ext_good h2 s85).ang (ext_good h2 s85).mono mixedT Tryz.func48 (entersOf Tryz.func48 (by kernel_rfl) rfl) (f46_ok _ m bad hl T _ (wend hQ) 0)
  · exact h.elim
end Go.Abs

/-
slices.Grow of bytes, at nil, is what it comes to.
-/
namespace Go.Proofs
open Go.Shelf
def Tryz.growB_ren : Go.Shelf.Ren := ⟨fun | 4 => 160 | n => n, fun | 22 => 24 | 25 => 5 | 3 => 3 | 4 => 4 | 9 => 9 | 20 => 20 | 0 => 0 | n => n, fun | n => n⟩
theorem Tryz.growB : Go.Proofs.Lays8.n4 Tryz.prog Tryz.growB_ren := {
  mixed := by kernel_rfl
  f4 := ⟨Tryz.f160.name, by decide, Tryz.func160.trans (congrArg some (by kernel_rfl))⟩
  t0 := Tryz.underlying0
  a0 := Tryz.isAgg0
  z0 := Tryz.sizeOf0
  v0 := Tryz.zeroValue0
  t3 := Tryz.underlying3
  a3 := Tryz.isAgg3
  z3 := Tryz.sizeOf3
  v3 := Tryz.zeroValue3
  t4 := Tryz.underlying4
  a4 := Tryz.isAgg4
  z4 := Tryz.sizeOf4
  v4 := Tryz.zeroValue4
  t9 := Tryz.underlying9
  a9 := Tryz.isAgg9
  z9 := Tryz.sizeOf9
  v9 := Tryz.zeroValue9
  t20 := Tryz.underlying20
  a20 := Tryz.isAgg20
  z20 := Tryz.sizeOf20
  v20 := Tryz.zeroValue20
  t22 := Tryz.underlying24
  a22 := Tryz.isAgg24
  z22 := Tryz.sizeOf24
  v22 := Tryz.zeroValue24 }
end Go.Proofs
namespace Go.Abs
open Go Go.Proofs

def s136s : Spec := fun args H Q => match args with
  | [.zslice, .int .i64 n] => 0 ≤ n ∧ n ≤ 1099511627776 ∧ Q (.ret (.row H.length)) (H ++ [.row true 5 1 []])
  | _ => False

set_option maxRecDepth 100000 in
theorem s136 : SGood Tryz.prog 160 s136s where
  ang := fun args H K h => by
    unfold s136s at *
    split at h
    · exact ⟨_, _, ⟨h.1, h.2.1, rfl, rfl⟩, h.2.2⟩
    · exact h.elim
  mono := fun args H K K' hk h => by
    unfold s136s at *
    split at h
    · exact ⟨h.1, h.2.1, hk _ _ h.2.2⟩
    · exact h.elim
  ok := fun args H Q h => by
    unfold s136s at h
    split at h
    · rename_i n
      obtain ⟨h0, h1, hQ⟩ := h
      obtain ⟨m, rfl⟩ := Int.eq_ofNat_of_zero_le h0
      refine ⟨entersOf Tryz.func160 (by kernel_rfl) rfl, fun Mx G w cargs hs ht => ?_⟩
      obtain ⟨hsz, hrv⟩ := ht
      obtain ⟨l⟩ := cargs
      match l, hsz with
      | [v0, v1], _ =>
        obtain ⟨A, rfl⟩ := (hrv 0 v0 .zslice rfl rfl).zslice_inv
        obtain rfl := (hrv 1 v1 (.int .i64 m) rfl rfl).int_inv
        by_cases hm : m = 0
        · subst hm
          have := Any8.slices_Grow_room Tryz.growB A 0 0 0 w (by omega) (by omega) (by omega) (by omega)
          refine Calls.mono (show Calls Tryz.prog 160 #[.slice A 0 0, .int .i64 ((0 : Nat) : Int)] w _ from this) fun e w' h => ?_
          obtain ⟨rfl, rfl⟩ := h
          obtain ⟨G', k1, k2, k3⟩ := row_push0 hs (wr := true) (e := 5) (sz := 1) (by decide) A
          exact ⟨_, _, G', k2, k1, .ret _ _ (by rw [List.length_append]; exact k3), hQ⟩
        · have hi : Tryz.prog.info? (Tryz.growB_ren.t 25) = Tryz.prog.info? 5 := by kernel_rfl
          obtain ⟨i0, hi0⟩ : ∃ i0, Tryz.prog.info? 5 = some i0 := Option.isSome_iff_exists.1 (by kernel_rfl)
          obtain ⟨z, hz⟩ : ∃ z, i0.zero = some z := ⟨.int .u8 0, by
            have : (Tryz.prog.info? 5).map (·.zero) = some (some (.int .u8 0)) := by kernel_rfl
            rw [hi0] at this
            simpa using this⟩
          have hsz : i0.size = 1 := by
            have : (Tryz.prog.info? 5).map (·.size) = some 1 := by kernel_rfl
            rw [hi0] at this
            simpa using this
          have hby : i0.bytes = 1 := by
            have : (Tryz.prog.info? 5).map (·.bytes) = some 1 := by kernel_rfl
            rw [hi0] at this
            simpa using this
          have hzc : z.cells.size = 1 := by
            have : (Tryz.prog.info? 5).map (·.zero) = some (some (.int .u8 0)) := by kernel_rfl
            rw [hi0, Option.map_some, hz] at this
            simp only [Option.some.injEq] at this
            subst this
            rfl
          have ht25 : Tryz.growB_ren.t 25 = 5 := by kernel_rfl
          have := Any8.slices_Grow_grow Tryz.growB i0 z (hi.trans hi0) hz (by omega) A 0 0 m [] w (by omega) (by omega) (by rw [hby]; omega) (by omega) (by simp) (fun _ => rfl) (fun a _ j v hj => by simp at hj)
          refine Calls.mono (show Calls Tryz.prog 160 #[.slice A 0 0, .int .i64 (m : Int)] w _ from this) fun e w' h => ?_
          obtain ⟨rfl, rfl⟩ := h
          rw [ht25]
          have hge := grownCap_ge w (0 + m) 0 5
          generalize hcur : ([] : List Value).toArray ++ Builtin.zeroCells z.cells (0 + m - 0) ++ Builtin.zeroCells z.cells (grownCap w (0 + m) 0 5 - (0 + m)) = cur
          have b1 : RowKit.Below w.heap.size w (w.drew.alloc (.cells cur 5)) := (RowKit.Below.refl _ _).drew.alloc (Nat.le_refl _) _
          have b2 : (w.drew.alloc (.cells cur 5)).heap[w.heap.size]? = some (.cells cur 5 (0, 0)) := heap_alloc_new w.drew _
          have b3 : cur.size = grownCap w (0 + m) 0 5 * 1 := by
            subst hcur
            simp only [Array.size_append, List.size_toArray, size_zeroCells, hzc, List.length_nil]
            omega
          obtain ⟨G', k1, k2, k3⟩ := row_push hs (wr := true) (e := 5) (sz := 1) (es := []) (cap := grownCap w (0 + m) 0 5) (g := w.heap.size) b1 (by decide) (fun i el h => by simp at h) (Nat.le_refl _) b2 (Nat.zero_le _)
            (grownCap_le_maxLen w _ 0 5 (by simp only [maxLen]; omega)) b3 (fun i el j x u h => by simp at h)
          exact ⟨_, _, G', k2, k1, .ret _ _ (by rw [List.length_append]; exact k3), hQ⟩
    · exact h.elim

end Go.Abs

/-
slices.Concat of bytes is what it comes to.
-/
namespace Go.Abs
open Go Go.Proofs

def txA (ps : List (List Int)) : List (List AV) := ps.map fun p => [.slice (bsA p)]
def g117 : FSpec := fun args K => match args with
  | [.slice es] => ∃ ps : List (List Int), es = txA ps ∧ ps.flatten.length ≤ 1099511627776 ∧ ps.length ≤ 1099511627776 ∧ K (.ret (.row 0)) [.row true 5 1 (bsA ps.flatten)]
  | _ => False
theorem g117_det (args : List AV) : DetF (g117 args) := by
  unfold g117
  repeat' (first | exact DetF.no | exact DetF.at _ _ | refine DetF.and ?_ | refine DetF.ex fun _ => ?_ | refine DetF.cond ?_ ?_ | split)

theorem take_flat (ps : List (List Int)) (i : Nat) (p : List Int) (h : ps[i]? = some p) : (ps.take (i + 1)).flatten = (ps.take i).flatten ++ p := by
  rw [List.take_add_one, h]
  simp
theorem take_flat_le (ps : List (List Int)) (i : Nat) : (ps.take i).flatten.length ≤ ps.flatten.length := by
  have := congrArg (fun x => (List.flatten x).length) (List.take_append_drop i ps)
  simp only [List.flatten_append, List.length_append] at this
  omega

set_option maxRecDepth 100000 in
set_option maxHeartbeats 4000000 in
theorem f117_ok (ps : List (List Int)) (hl : ps.flatten.length ≤ 1099511627776) (hp : ps.length ≤ 1099511627776) (T : Tab) (Q : AOut → Heap → Prop) (hQ : Q (.ret (.row 0)) [.row true 5 1 (bsA ps.flatten)]) (N : Nat) (hN : ps.length < N) :
    abody Tryz.prog (ext T 160 s136s) 0 N Tryz.f128 [.slice (txA ps)] [] Q := by
  have hlen : (txA ps).length = ps.length := by simp [txA]
  have hget : ∀ (i : Nat) p, ps[i]? = some p → (txA ps)[i]? = some [.slice (bsA p)] := fun i p h => by simp [txA, h]
  conv => whnf
  refine aloop_at ?_ ?_ (aloop_inv (σ := Nat) (fun i => ((sp 0 36 [(0, .slice (txA ps)), (3, .int .i64 ((ps.take i).flatten.length : Nat)), (9, .slice (txA ps)), (10, .int .i64 ((txA ps).length : Nat)), (11, .int .i64 (i : Nat))]), []))
    (fun i => i ≤ ps.length) (fun i => ps.length - i) ?_ N 0 (Nat.zero_le _) (by omega))
  · kernel_rfl
  · kernel_rfl
  intro i hi R hR
  conv => whnf
  have hinc : ∀ i : Nat, i ≤ ps.length → IntKind.i64.wrap ((i : Int) + 1) = ((i + 1 : Nat) : Int) := fun i h => by rw [IntWalk.i64_in _ (by omega)]; omega
  split
  · rename_i h1; have h1 : (i : Int) < (txA ps).length := of_decide_eq_true h1
    rw [hlen] at h1
    obtain ⟨p, hpp⟩ : ∃ p, ps[i]? = some p := ⟨ps[i]'(by omega), List.getElem?_eq_getElem (by omega)⟩
    have ht := take_flat ps i p hpp
    have htl := take_flat_le ps (i + 1)
    rw [ht, List.length_append] at htl
    have hw : IntKind.i64.wrap (((ps.take i).flatten.length : Int) + ((bsA p).length : Int)) = (((ps.take (i + 1)).flatten.length : Nat) : Int) := by
      rw [bsA_length, IntWalk.i64_in _ (by omega), ht, List.length_append]; omega
    conv => whnf
    refine ⟨by omega, by rw [hlen]; omega, [.slice (bsA p)], hget i p hpp, by kernel_rfl, ?_⟩
    conv => whnf
    rw [hw]
    split
    · rename_i h2; have h2 : (((ps.take (i + 1)).flatten.length : Nat) : Int) < 0 := of_decide_eq_true h2
      omega
    conv => whnf
    refine R_at ?_ ?_ (hR (i + 1) (by omega) (by omega))
    · rw [← hinc i hi]; kernel_rfl
    · kernel_rfl
  rename_i h1; have h1 : ¬ (i : Int) < (txA ps).length := of_decide_eq_false h1
  rw [hlen] at h1
  have hall : ps.take i = ps := List.take_of_length_le (by omega)
  clear hR
  conv => whnf
  rw [hall]
  refine ⟨by omega, by omega, ?_⟩
  conv => whnf
  refine aloop_at ?_ ?_ (aloop_inv (σ := Nat) (fun i => ((sp 0 36 [(6, .row 0), (25, .slice (txA ps)), (26, .int .i64 ((txA ps).length : Nat)), (27, .int .i64 (i : Nat))]), [.row true 5 1 (bsA (ps.take i).flatten)]))
    (fun i => i ≤ ps.length) (fun i => ps.length - i) ?_ N 0 (Nat.zero_le _) (by omega))
  · kernel_rfl
  · kernel_rfl
  clear hi h1 hall
  intro i hi R hR
  conv => whnf
  split
  · rename_i h1; have h1 : (i : Int) < (txA ps).length := of_decide_eq_true h1
    rw [hlen] at h1
    obtain ⟨p, hpp⟩ : ∃ p, ps[i]? = some p := ⟨ps[i]'(by omega), List.getElem?_eq_getElem (by omega)⟩
    have ht := take_flat ps i p hpp
    have htl := take_flat_le ps (i + 1)
    rw [ht, List.length_append] at htl
    conv => whnf
    refine ⟨by omega, by rw [hlen]; omega, [.slice (bsA p)], hget i p hpp, by kernel_rfl, ?_⟩
    conv => whnf
    refine ⟨fits_bs (by rw [bsA_length]; omega), ?_⟩
    conv => whnf
    refine R_at ?_ ?_ (hR (i + 1) (by omega) (by omega))
    · rw [← hinc i hi]; kernel_rfl
    · rw [show bsA (ps.take (i + 1)).flatten = bsA (ps.take i).flatten ++ bsA p by rw [ht, bsA_append]]; kernel_rfl
  rename_i h1; have h1 : ¬ (i : Int) < (txA ps).length := of_decide_eq_false h1
  rw [hlen] at h1
  have hall : ps.take i = ps := List.take_of_length_le (by omega)
  rw [← hall] at hQ
  refine Eq.mp ?_ hQ
  kernel_rfl

set_option maxRecDepth 100000 in
theorem s117 {T : Tab} (hT : TGood Tryz.prog T) : SGood Tryz.prog 128 (freshT g117) := freshT_good g117_det fun args Q h => by
  unfold g117 at h
  split at h
  · obtain ⟨ps, rfl, hl, hp, hQ⟩ := h
    exact body_fresh (ext_good hT s136) mixedT Tryz.func128 (entersOf Tryz.func128 (by kernel_rfl) rfl) _ (f117_ok ps hl hp T Q hQ (ps.length + 1) (Nat.lt_succ_self _))
  · exact h.elim

end Go.Abs

/-
catenaryref01.Int is what it comes to.
-/
namespace Go.Abs
open Go Go.Proofs

def gRec (m : Nat) : FSpec := fun args K => match args with
  | [.int .i64 n] => n.toNat < m ∧ g84 [.int .i64 n] K
  | _ => False

theorem gRec_det (m : Nat) (args : List AV) : DetF (gRec m args) := by
  unfold gRec
  split
  · exact DetF.and (g84_det _)
  · exact DetF.no

set_option maxRecDepth 100000 in
set_option maxHeartbeats 2000000 in
theorem f95_ok (m : Nat) (n : Int) (hn : n.toNat < m + 1) (T : Tab) (Q : AOut → Heap → Prop) (hQ : g84 [.int .i64 n] Q) (N : Nat) :
    abody Tryz.prog (ext T 136 (freshT (gRec m))) 0 N Tryz.f136 [.int .i64 n] [] Q := by
  unfold g84 at hQ
  dsimp only at hQ
  conv => whnf
  split
  · rename_i h1; have h1 : n < 0 := of_decide_eq_true h1
    rw [show okI n = false by simp [okI]; omega] at hQ
    refine Eq.mp ?_ hQ
    kernel_rfl
  rename_i h1; have h1 : ¬ n < 0 := of_decide_eq_false h1
  conv => whnf
  split
  · rename_i h2; have h2 : n > 2147483647 := of_decide_eq_true h2
    rw [show okI n = false by simp [okI]; omega] at hQ
    refine Eq.mp ?_ hQ
    kernel_rfl
  rename_i h2; have h2 : ¬ n > 2147483647 := of_decide_eq_false h2
  rw [show okI n = true by simp [okI]; omega] at hQ
  dsimp only [cond_true] at hQ
  conv => whnf
  split
  · rename_i h3; have h3 : n < 128 := of_decide_eq_true h3
    have e : encI n = [IntKind.u8.wrap n] := by rw [encI_small h3, IntKind.wrap_u8, Int.emod_eq_of_lt (by omega) (by omega)]
    rw [e] at hQ
    refine Eq.mp ?_ hQ
    kernel_rfl
  rename_i h3; have h3 : ¬ n < 128 := of_decide_eq_false h3
  have hd : IntKind.i64.wrap (n.tdiv 128) = n / 128 := by rw [Int.tdiv_eq_ediv_of_nonneg (by omega), IntKind.wrap_i64]; omega
  conv => whnf
  rw [hd]
  refine ⟨by omega, ?_⟩
  unfold g84
  dsimp only
  rw [show okI (n / 128) = true by simp [okI]; omega]
  conv => whnf
  have hr : IntKind.u8.wrap (IntKind.i64.wrap (n.tmod 128 + 128)) = n % 128 + 128 := by rw [Int.tmod_eq_emod_of_nonneg (by omega), IntKind.wrap_u8, IntKind.wrap_i64]; omega
  rw [hr]
  refine ⟨fits_bs (by have := encI_len (n / 128); simp; omega), ?_⟩
  conv => whnf
  rw [encI_step (by omega) (by omega)] at hQ
  refine Eq.mp ?_ hQ
  kernel_rfl

theorem f95_fok {T : Tab} (hT : TGood Tryz.prog T) : ∀ (m : Nat) (n : Int), n.toNat < m → ∀ Q, g84 [.int .i64 n] Q → FOK Tryz.prog 136 [.int .i64 n] [] Q
  | 0, n, h, _, _ => absurd h (Nat.not_lt_zero _)
  | m + 1, n, h, Q, hQ => by
    have hs : SGood Tryz.prog 136 (freshT (gRec m)) := freshT_good (gRec_det m) fun args Q h => by
      unfold gRec at h
      split at h
      · exact f95_fok hT m _ h.1 Q h.2
      · exact h.elim
    exact body_fresh (ext_good hT hs) mixedT Tryz.func136 (entersOf Tryz.func136 (by kernel_rfl) rfl) 0 (f95_ok m n h T Q hQ 0)

theorem s95 {T : Tab} (hT : TGood Tryz.prog T) : SGood Tryz.prog 136 (freshT g84) := freshT_good g84_det fun args Q h => by
  have h0 := h
  unfold g84 at h
  split at h
  · exact f95_fok hT _ _ (Nat.lt_succ_self _) Q h0
  · exact h.elim

end Go.Abs

/-
catenaryref01.Bytes is what it comes to.
-/
namespace Go.Abs
open Go Go.Proofs

/-- A text with its length ahead. -/
def encB (l : List Int) : List Int := encI l.length ++ l

def g64 : FSpec := fun args K => match args with
  | [.slice es] => ∃ l : List Int, es = bsA l ∧ l.length ≤ 2147483647 ∧ K (.ret (.row 0)) [.row true 5 1 (bsA (encB l))]
  | _ => False
theorem g64_det (args : List AV) : DetF (g64 args) := by
  unfold g64
  repeat' (first | exact DetF.no | exact DetF.at _ _ | refine DetF.and ?_ | refine DetF.ex fun _ => ?_ | refine DetF.cond ?_ ?_ | split)

set_option maxRecDepth 100000 in
set_option maxHeartbeats 2000000 in
theorem f64_ok (l : List Int) (hl : l.length ≤ 2147483647) (T : Tab) (Q : AOut → Heap → Prop) (hQ : Q (.ret (.row 0)) [.row true 5 1 (bsA (encB l))]) (N : Nat) :
    abody Tryz.prog (ext T 136 (freshT g84)) 0 N Tryz.f81 [.slice (bsA l)] [] Q := by
  conv => whnf
  have hlen : okI (bsA l).length = true := by rw [bsA_length]; simp [okI]; omega
  split
  rotate_left
  · rename_i h; rw [hlen] at h; cases h
  conv => whnf
  refine ⟨fits_bs (by have := encI_len (bsA l).length; simp only [bsA_length] at *; omega), ?_⟩
  conv => whnf
  rw [show bsA (encB l) = bsA (encI (bsA l).length) ++ bsA l by simp [encB, bsA_append]] at hQ
  refine Eq.mp ?_ hQ
  kernel_rfl

set_option maxRecDepth 100000 in
theorem s64 {T : Tab} (hT : TGood Tryz.prog T) : SGood Tryz.prog 81 (freshT g64) := freshT_good g64_det fun args Q h => by
  unfold g64 at h
  split at h
  · obtain ⟨l, rfl, hl, hQ⟩ := h
    exact body_fresh (ext_good hT (s95 hT)) mixedT Tryz.func81 (entersOf Tryz.func81 (by kernel_rfl) rfl) 0 (f64_ok l hl T Q hQ 0)
  · exact h.elim

end Go.Abs

/-
octet.Bytes is what it comes to.
-/
namespace Go.Abs
open Go Go.Proofs

set_option maxRecDepth 100000 in
set_option maxHeartbeats 2000000 in
theorem f63_ok (l : List Int) (hl : l.length ≤ 2147483647) (T : Tab) (Q : AOut → Heap → Prop) (hQ : Q (.ret (.row 0)) [.row true 5 1 (bsA (encB l))]) (N : Nat) :
    abody Tryz.prog (ext (ext T 83 (freshT g84)) 128 (freshT g117)) 0 N Tryz.f75 [.slice (bsA l)] [] Q := by
  conv => whnf
  have hlen : okI (bsA l).length = true := by rw [bsA_length]; simp [okI]; omega
  split
  rotate_left
  · rename_i h; rw [hlen] at h; cases h
  conv => whnf
  have hn := encI_len l.length
  refine ⟨[encI (bsA l).length, l], by kernel_rfl, by simp; omega, by simp, ?_⟩
  conv => whnf
  rw [show encB l = [encI (bsA l).length, l].flatten by simp [encB]] at hQ
  refine Eq.mp ?_ hQ
  kernel_rfl

set_option maxRecDepth 100000 in
theorem s63 {T : Tab} (hT : TGood Tryz.prog T) : SGood Tryz.prog 75 (freshT g64) := freshT_good g64_det fun args Q h => by
  unfold g64 at h
  split at h
  · obtain ⟨l, rfl, hl, hQ⟩ := h
    exact body_fresh (ext_good (ext_good hT (s84 hT)) (s117 (ext_good hT (s84 hT)))) mixedT Tryz.func75 (entersOf Tryz.func75 (by kernel_rfl) rfl) 0 (f63_ok l hl T Q hQ 0)
  · exact h.elim

end Go.Abs

/-
(*msg.writer).text, ballot, req, vote are what they come to.
-/
namespace Go.Abs
open Go Go.Proofs

def wText (p : List Int) (s : WS) : WS := (s.1 ++ encB p, s.2 || decide ((p.length : Int) > 65536))
def g88 : WSpec := fun args l bad K => match args with
  | [.slice es] => ∃ p : List Int, es = bsA p ∧ p.length ≤ 2147483647 ∧ wspec (wText p) l bad K
  | _ => False
theorem g88_det (args : List AV) (l : List (List AV)) (bad : Bool) : WDet (g88 args l bad) := by
  unfold g88
  split
  · exact WDet.ex fun _ => WDet.and (WDet.and (wspec_det _ _ _))
  · exact WDet.no

set_option maxRecDepth 100000 in
set_option maxHeartbeats 4000000 in
theorem f88_ok (p : List Int) (hp : p.length ≤ 2147483647) (m : List Int) (bad : Bool) (hl : (wText p (m, bad)).1.length ≤ 1099511627776) (T : Tab) (Q : AOut → Heap → Prop)
    (hQ : Q (.ret (.tuple [])) [wvar 2 (wText p (m, bad)).2, .dead, wrow (bsA (wText p (m, bad)).1)]) (N : Nat) :
    abody Tryz.prog (ext (ext T 75 (freshT g64)) 84 (writerT g85)) 2 N Tryz.f87 [.ptr 0 0, .slice (bsA p)] [wvar 1 bad, wrow (bsA m)] Q := by
  simp only [wText] at hQ hl
  simp only [List.length_append] at hl
  have hlen : ((bsA p).length : Int) = (p.length : Int) := by rw [bsA_length]
  cases bad
  all_goals
    conv => whnf
    refine ⟨[4, 5], ?_⟩
    conv => whnf
    refine ⟨p, rfl, hp, ?_⟩
    conv => whnf
    refine ⟨by (conv => whnf); exact ⟨rfl, rfl⟩, ?_⟩
    conv => whnf
    refine ⟨by (conv => whnf); exact ⟨rfl, rfl⟩, ?_⟩
    conv => whnf
    refine ⟨fun el hel => bsA_el hel, by rw [bsA_length, bsA_length]; omega, ?_⟩
    conv => whnf
    simp only [bsA_append] at hQ
    try rw [← hlen] at hQ
    refine Eq.mp ?_ hQ
    kernel_rfl

set_option maxRecDepth 100000 in
theorem s88 {T : Tab} (hT : TGood Tryz.prog T) : SGood Tryz.prog 87 (writerT g88) := writerT_good g88_det fun args l bad Q h => by
  unfold g88 at h
  split at h
  · obtain ⟨p, rfl, hp, m, rfl, hl, hQ⟩ := h
    have h2 := ext_good hT (s63 hT)
    exact abody_sound (ext_good h2 s85).ok (ext_good h2 s85).ang (ext_good h2 s85).mono mixedT Tryz.func87 (entersOf Tryz.func87 (by kernel_rfl) rfl) (f88_ok _ hp m bad hl T _ (wend hQ) 0)
  · exact h.elim
end Go.Abs

/-
(*msg.writer).ballot, req, vote are what they come to.
-/
namespace Go.Abs
open Go Go.Proofs

theorem wNum_le (n : Int) (s : WS) : s.1.length ≤ (wNum n s).1.length := by simp [wNum]
theorem wText_le (p : List Int) (s : WS) : s.1.length ≤ (wText p s).1.length := by simp [wText]

structure BalV where
  view : Int
  turn : Int
def balC (b : BalV) : List AV := [.int .i64 b.view, .int .i64 b.turn]
def wBal (b : BalV) (s : WS) : WS := wNum b.turn (wNum b.view s)
def wReq (r : RqV) (s : WS) : WS := wText r.sig (wText r.op (wNum r.stamp (wNum r.client s)))
def wVote (v : VtV) (s : WS) : WS := wText v.sig (wNum v.signer s)
theorem wBal_le (b : BalV) (s : WS) : s.1.length ≤ (wBal b s).1.length := Nat.le_trans (wNum_le _ _) (wNum_le _ _)
theorem wReq_le (r : RqV) (s : WS) : s.1.length ≤ (wReq r s).1.length := Nat.le_trans (wNum_le _ _) (Nat.le_trans (wNum_le _ _) (Nat.le_trans (wText_le _ _) (wText_le _ _)))
theorem wVote_le (v : VtV) (s : WS) : s.1.length ≤ (wVote v s).1.length := Nat.le_trans (wNum_le _ _) (wText_le _ _)

def g86 : WSpec := fun args l bad K => match args with
  | [.agg cs] => ∃ b : BalV, cs = balC b ∧ wspec (wBal b) l bad K
  | _ => False
theorem g86_det (args : List AV) (l : List (List AV)) (bad : Bool) : WDet (g86 args l bad) := by
  unfold g86
  split
  · exact WDet.ex fun _ => WDet.and (wspec_det _ _ _)
  · exact WDet.no

set_option maxRecDepth 100000 in
set_option maxHeartbeats 4000000 in
theorem f86_ok (b : BalV) (m : List Int) (bad : Bool) (hl : (wBal b (m, bad)).1.length ≤ 1099511627776) (T : Tab) (Q : AOut → Heap → Prop)
    (hQ : Q (.ret (.tuple [])) [wvar 2 (wBal b (m, bad)).2, .dead, wrow (bsA (wBal b (m, bad)).1)]) (N : Nat) :
    abody Tryz.prog (ext T 48 (writerT g46)) 2 N Tryz.f85 [.ptr 0 0, .agg (balC b)] [wvar 1 bad, wrow (bsA m)] Q := by
  conv => whnf
  refine ⟨m, rfl, Nat.le_trans (wNum_le _ _) hl, ?_⟩
  conv => whnf
  refine ⟨_, rfl, hl, ?_⟩
  conv => whnf
  refine Eq.mp ?_ hQ
  kernel_rfl

set_option maxRecDepth 100000 in
theorem s86 {T : Tab} (hT : TGood Tryz.prog T) : SGood Tryz.prog 85 (writerT g86) := writerT_good g86_det fun args l bad Q h => by
  unfold g86 at h
  split at h
  · obtain ⟨b, rfl, m, rfl, hl, hQ⟩ := h
    have h2 := ext_good hT (s46 hT)
    exact abody_sound h2.ok h2.ang h2.mono mixedT Tryz.func85 (entersOf Tryz.func85 (by kernel_rfl) rfl) (f86_ok b m bad hl T _ (wend hQ) 0)
  · exact h.elim

def g87 : WSpec := fun args l bad K => match args with
  | [.agg cs] => ∃ r : RqV, cs = rqC r ∧ okR r ∧ wspec (wReq r) l bad K
  | _ => False
theorem g87_det (args : List AV) (l : List (List AV)) (bad : Bool) : WDet (g87 args l bad) := by
  unfold g87
  split
  · exact WDet.ex fun _ => WDet.and (WDet.and (wspec_det _ _ _))
  · exact WDet.no

set_option maxRecDepth 100000 in
set_option maxHeartbeats 4000000 in
theorem f87_ok (r : RqV) (hr : okR r) (m : List Int) (bad : Bool) (hl : (wReq r (m, bad)).1.length ≤ 1099511627776) (T : Tab) (Q : AOut → Heap → Prop)
    (hQ : Q (.ret (.tuple [])) [wvar 2 (wReq r (m, bad)).2, .dead, wrow (bsA (wReq r (m, bad)).1)]) (N : Nat) :
    abody Tryz.prog (ext (ext T 48 (writerT g46)) 87 (writerT g88)) 2 N Tryz.f86 [.ptr 0 0, .agg (rqC r)] [wvar 1 bad, wrow (bsA m)] Q := by
  have l3 := Nat.le_trans (wText_le r.sig (wText r.op (wNum r.stamp (wNum r.client (m, bad))))) hl
  have l2 := Nat.le_trans (wText_le r.op (wNum r.stamp (wNum r.client (m, bad)))) l3
  have l1 := Nat.le_trans (wNum_le r.stamp (wNum r.client (m, bad))) l2
  conv => whnf
  refine ⟨m, rfl, l1, ?_⟩
  conv => whnf
  refine ⟨_, rfl, l2, ?_⟩
  conv => whnf
  refine ⟨r.op, rfl, hr.1.2, _, rfl, l3, ?_⟩
  conv => whnf
  refine ⟨r.sig, rfl, hr.2.2, _, rfl, hl, ?_⟩
  conv => whnf
  refine Eq.mp ?_ hQ
  kernel_rfl

set_option maxRecDepth 100000 in
theorem s87 {T : Tab} (hT : TGood Tryz.prog T) : SGood Tryz.prog 86 (writerT g87) := writerT_good g87_det fun args l bad Q h => by
  unfold g87 at h
  split at h
  · obtain ⟨r, rfl, hr, m, rfl, hl, hQ⟩ := h
    have h1 := ext_good hT (s46 hT)
    have h2 := ext_good h1 (s88 h1)
    exact abody_sound h2.ok h2.ang h2.mono mixedT Tryz.func86 (entersOf Tryz.func86 (by kernel_rfl) rfl) (f87_ok r hr m bad hl T _ (wend hQ) 0)
  · exact h.elim

def g90 : WSpec := fun args l bad K => match args with
  | [.agg cs] => ∃ v : VtV, cs = vtC v ∧ okT v.sig ∧ wspec (wVote v) l bad K
  | _ => False
theorem g90_det (args : List AV) (l : List (List AV)) (bad : Bool) : WDet (g90 args l bad) := by
  unfold g90
  split
  · exact WDet.ex fun _ => WDet.and (WDet.and (wspec_det _ _ _))
  · exact WDet.no

set_option maxRecDepth 100000 in
set_option maxHeartbeats 4000000 in
theorem f90_ok (v : VtV) (hv : okT v.sig) (m : List Int) (bad : Bool) (hl : (wVote v (m, bad)).1.length ≤ 1099511627776) (T : Tab) (Q : AOut → Heap → Prop)
    (hQ : Q (.ret (.tuple [])) [wvar 2 (wVote v (m, bad)).2, .dead, wrow (bsA (wVote v (m, bad)).1)]) (N : Nat) :
    abody Tryz.prog (ext (ext T 48 (writerT g46)) 87 (writerT g88)) 2 N Tryz.f89 [.ptr 0 0, .agg (vtC v)] [wvar 1 bad, wrow (bsA m)] Q := by
  have l1 := Nat.le_trans (wText_le v.sig (wNum v.signer (m, bad))) hl
  conv => whnf
  refine ⟨m, rfl, l1, ?_⟩
  conv => whnf
  refine ⟨v.sig, rfl, hv.2, _, rfl, hl, ?_⟩
  conv => whnf
  refine Eq.mp ?_ hQ
  kernel_rfl

set_option maxRecDepth 100000 in
theorem s90 {T : Tab} (hT : TGood Tryz.prog T) : SGood Tryz.prog 89 (writerT g90) := writerT_good g90_det fun args l bad Q h => by
  unfold g90 at h
  split at h
  · obtain ⟨v, rfl, hv, m, rfl, hl, hQ⟩ := h
    have h1 := ext_good hT (s46 hT)
    have h2 := ext_good h1 (s88 h1)
    exact abody_sound h2.ok h2.ang h2.mono mixedT Tryz.func89 (entersOf Tryz.func89 (by kernel_rfl) rfl) (f90_ok v hv m bad hl T _ (wend hQ) 0)
  · exact h.elim
end Go.Abs

/-
msg.list of votes, numbers, requests are what they come to.
-/
namespace Go.Abs
open Go Go.Proofs

/-- One behind the other. -/
def wSeq (fs : List (WS → WS)) (s : WS) : WS := fs.foldl (fun s f => f s) s
def wList (fs : List (WS → WS)) (s : WS) : WS :=
  let s1 := wNum fs.length (s.1, s.2 || decide ((fs.length : Int) > 64))
  cond s1.2 s1 (wSeq fs s1)
theorem wSeq_le : ∀ (fs : List (WS → WS)), (∀ f ∈ fs, ∀ s : WS, s.1.length ≤ (f s).1.length) → ∀ s : WS, s.1.length ≤ (wSeq fs s).1.length
  | [], _, _ => Nat.le_refl _
  | f :: r, h, s => Nat.le_trans (h f List.mem_cons_self s) (wSeq_le r (fun g hg => h g (List.mem_cons_of_mem _ hg)) (f s))
theorem wSeq_append (fs gs : List (WS → WS)) (s : WS) : wSeq (fs ++ gs) s = wSeq gs (wSeq fs s) := by simp [wSeq]
theorem wSeq_take {α : Type} (vs : List α) (e : α → WS → WS) (i : Nat) (v : α) (h : vs[i]? = some v) (s : WS) : wSeq ((vs.take (i + 1)).map e) s = e v (wSeq ((vs.take i).map e) s) := by
  rw [List.take_add_one, h, Option.toList_some, List.map_append, wSeq_append]
  rfl
theorem wSeq_take_le {α : Type} (vs : List α) (e : α → WS → WS) (he : ∀ v s, s.1.length ≤ (e v s).1.length) (i : Nat) (s : WS) : (wSeq ((vs.take i).map e) s).1.length ≤ (wSeq (vs.map e) s).1.length := by
  have h : wSeq (vs.map e) s = wSeq ((vs.drop i).map e) (wSeq ((vs.take i).map e) s) := by rw [← wSeq_append, ← List.map_append, List.take_append_drop]
  rw [h]
  exact wSeq_le _ (fun f hf s => by
    obtain ⟨v, _, rfl⟩ := List.mem_map.1 hf
    exact he v s) _
theorem wList_le (fs : List (WS → WS)) (h : ∀ f ∈ fs, ∀ s : WS, s.1.length ≤ (f s).1.length) (s : WS) : s.1.length ≤ (wList fs s).1.length := by
  unfold wList
  dsimp only
  generalize h0 : wNum fs.length (s.1, s.2 || decide ((fs.length : Int) > 64)) = s1
  have h1 : s.1.length ≤ s1.1.length := by rw [← h0]; exact wNum_le _ _
  cases s1.2 with
  | true => exact h1
  | false => exact Nat.le_trans h1 (wSeq_le fs h s1)
theorem wListM_le {α : Type} (vs : List α) (e : α → WS → WS) (he : ∀ v s, s.1.length ≤ (e v s).1.length) (s : WS) : s.1.length ≤ (wList (vs.map e) s).1.length :=
  wList_le _ (fun f hf s => by
    obtain ⟨v, _, rfl⟩ := List.mem_map.1 hf
    exact he v s) s

def vtCL (l : List VtV) : List (List AV) := l.map vtC
def inC (n : Int) : List AV := [.int .i64 n]
def inCL (l : List Int) : List (List AV) := l.map inC
def rqCL (l : List RqV) : List (List AV) := l.map rqC


def g89 : WSpec := fun args l bad K => match args with
  | [.slice es] => ∃ vs : List VtV, es = vtCL vs ∧ vs.length ≤ 1099511627776 ∧ (∀ v ∈ vs, okT v.sig) ∧ wspec (wList (vs.map wVote)) l bad K
  | _ => False
theorem g89_det (args : List AV) (l : List (List AV)) (bad : Bool) : WDet (g89 args l bad) := by
  unfold g89
  split
  · exact WDet.ex fun _ => WDet.and (WDet.and (WDet.and (wspec_det _ _ _)))
  · exact WDet.no
theorem g89_one (args : List AV) (l : List (List AV)) (bad : Bool) (Q : AV → List (List AV) → Bool → Prop) (h : g89 args l bad Q) : ∃ x, args = [x] := by
  unfold g89 at h
  split at h
  · exact ⟨_, rfl⟩
  · exact h.elim

set_option maxRecDepth 100000 in
set_option maxHeartbeats 4000000 in
theorem f89_loop (vs : List VtV) (hv : vs.length ≤ 1099511627776) (hok : ∀ v ∈ vs, okT v.sig) (s1 : WS) (hs1 : s1.2 = false) (hl : (wSeq (vs.map wVote) s1).1.length ≤ 1099511627776) (T : Tab) (Q : AOut → Heap → Prop)
    (hQ : Q (.ret (.tuple [])) [wvar 2 (wSeq (vs.map wVote) s1).2, .dead, wrow (bsA (wSeq (vs.map wVote) s1).1)]) (m : List Int) (bad : Bool) (h0 : wNum vs.length (m, bad || decide ((vs.length : Int) > 64)) = s1) (h0l : s1.1.length ≤ 1099511627776) (N : Nat) (hN : vs.length < N) :
    abody Tryz.prog (ext (ext T 48 (writerT g46)) 89 (writerT g90)) 2 N Tryz.f88 [.ptr 0 0, .slice (vtCL vs), .func (.func 89) [.ptr 0 0] []] [wvar 1 bad, wrow (bsA m)] Q := by
  have hlen : (vtCL vs).length = vs.length := by simp [vtCL]
  have hlenI : (((vtCL vs).length : Nat) : Int) = (vs.length : Int) := by rw [hlen]
  cases bad with
  | true => exfalso; rw [← h0] at hs1; simp [wNum] at hs1
  | false =>
    conv => whnf
    rw [hlenI]
    refine ⟨m, rfl, ?_, ?_⟩
    · refine Nat.le_trans (Nat.le_of_eq ?_) h0l
      rw [← h0]
      rfl
    conv => whnf
    split
    · rename_i h1
      have h2 : (wNum (vs.length : Int) (m, false || decide ((vs.length : Int) > 64))).2 = true := h1
      rw [h0, hs1] at h2
      cases h2
    rename_i h1
    conv => whnf
    refine aloop_at ?_ ?_ (aloop_inv (σ := Nat) (fun i => ((sp 0 38 [(2, .func (.func 89) [.ptr 0 0] []), (28, .slice (vtCL vs)), (29, .int .i64 ((vtCL vs).length : Nat)), (30, .int .i64 (i : Nat))]), [wvar 2 (wSeq ((vs.take i).map wVote) s1).2, .dead, wrow (bsA (wSeq ((vs.take i).map wVote) s1).1)]))
      (fun i => i ≤ vs.length) (fun i => vs.length - i) ?_ N 0 (Nat.zero_le _) (by omega))
    · kernel_rfl
    · rw [← h0]; kernel_rfl
    intro i hi R hR
    conv => whnf
    split
    rotate_left
    · rename_i h2; have h2 : ¬ (i : Int) < (vtCL vs).length := of_decide_eq_false h2
      rw [hlen] at h2
      rw [← List.take_of_length_le (show vs.length ≤ i by omega)] at hQ
      refine Eq.mp ?_ hQ
      kernel_rfl
    rename_i h2; have h2 : (i : Int) < (vtCL vs).length := of_decide_eq_true h2
    rw [hlen] at h2
    obtain ⟨v, hx⟩ : ∃ v, vs[i]? = some v := ⟨vs[i]'(by omega), List.getElem?_eq_getElem (by omega)⟩
    have hxa : (vtCL vs)[i]? = some (vtC v) := by simp [vtCL, hx]
    have hokv := hok v (List.mem_of_getElem? hx)
    have hstep : wSeq ((vs.take (i + 1)).map wVote) s1 = wVote v (wSeq ((vs.take i).map wVote) s1) := wSeq_take vs wVote i v hx s1
    have hle : (wVote v (wSeq ((vs.take i).map wVote) s1)).1.length ≤ 1099511627776 := by
      rw [← hstep]
      exact Nat.le_trans (wSeq_take_le vs wVote wVote_le (i + 1) s1) hl
    have hi1 : IntKind.i64.wrap ((i : Int) + 1) = ((i + 1 : Nat) : Int) := by rw [IntWalk.i64_in _ (by omega)]; omega
    conv => whnf
    refine ⟨by omega, by rw [hlen]; omega, _, hxa, by kernel_rfl, ?_⟩
    conv => whnf
    refine ⟨v, rfl, hokv, _, rfl, hle, ?_⟩
    conv => whnf
    refine R_at ?_ ?_ (hR (i + 1) (by omega) (by omega))
    · rw [← hi1]; kernel_rfl
    · rw [hstep]; kernel_rfl

set_option maxRecDepth 100000 in
set_option maxHeartbeats 4000000 in
theorem f89_ok (vs : List VtV) (hv : vs.length ≤ 1099511627776) (hok : ∀ v ∈ vs, okT v.sig) (m : List Int) (bad : Bool) (hl : (wList (vs.map wVote) (m, bad)).1.length ≤ 1099511627776) (T : Tab) (Q : AOut → Heap → Prop)
    (hQ : Q (.ret (.tuple [])) [wvar 2 (wList (vs.map wVote) (m, bad)).2, .dead, wrow (bsA (wList (vs.map wVote) (m, bad)).1)]) (N : Nat) (hN : vs.length < N) :
    abody Tryz.prog (ext (ext T 48 (writerT g46)) 89 (writerT g90)) 2 N Tryz.f88 [.ptr 0 0, .slice (vtCL vs), .func (.func 89) [.ptr 0 0] []] [wvar 1 bad, wrow (bsA m)] Q := by
  have hlen : (vtCL vs).length = vs.length := by simp [vtCL]
  have hlenI : (((vtCL vs).length : Nat) : Int) = (vs.length : Int) := by rw [hlen]
  have hml : ((vs.map wVote).length : Int) = (vs.length : Int) := by rw [List.length_map]
  unfold wList at hQ hl
  rw [hml] at hQ hl
  dsimp only at hQ hl
  generalize h0 : wNum vs.length (m, bad || decide ((vs.length : Int) > 64)) = s1 at hQ hl
  cases hb : s1.2 with
  | false =>
    rw [hb] at hQ hl
    exact f89_loop vs hv hok s1 hb hl T Q hQ m bad h0 (Nat.le_trans (wSeq_le _ (fun e he s => by
      obtain ⟨v, _, rfl⟩ := List.mem_map.1 he
      exact wVote_le v s) s1) hl) N hN
  | true =>
    rw [hb] at hQ hl
    have hQ' : Q (.ret (.tuple [])) [wvar 2 s1.2, .dead, wrow (bsA s1.1)] := hQ
    have hl' : s1.1.length ≤ 1099511627776 := hl
    rw [hb] at hQ'
    cases bad with
    | true =>
      conv => whnf
      rw [hlenI]
      refine ⟨m, rfl, ?_, ?_⟩
      · refine Nat.le_trans (Nat.le_of_eq ?_) hl'
        rw [← h0]
        rfl
      conv => whnf
      have e1 : s1.1 = (wNum vs.length (m, true)).1 := by rw [← h0]; rfl
      rw [e1] at hQ'
      refine Eq.mp ?_ hQ'
      kernel_rfl
    | false =>
      conv => whnf
      rw [hlenI]
      refine ⟨m, rfl, ?_, ?_⟩
      · refine Nat.le_trans (Nat.le_of_eq ?_) hl'
        rw [← h0]
        rfl
      conv => whnf
      split
      · rename_i h1
        have e1 : s1.1 = (wNum vs.length (m, false || decide ((vs.length : Int) > 64))).1 := by rw [← h0]
        have e2 : (wNum vs.length (m, false || decide ((vs.length : Int) > 64))).2 = true := by rw [h0]; exact hb
        conv => whnf
        rw [e1, ← e2] at hQ'
        refine Eq.mp ?_ hQ'
        kernel_rfl
      · rename_i h1
        have h2 : (wNum (vs.length : Int) (m, false || decide ((vs.length : Int) > 64))).2 = false := h1
        rw [h0, hb] at h2
        cases h2

set_option maxRecDepth 100000 in
theorem s89 {T : Tab} (hT : TGood Tryz.prog T) : SGood Tryz.prog 88 (listT 89 g89) := listT_good g89_det (fun x l bad Q h => by
  unfold g89 at h
  split at h
  · rename_i es heq
    cases heq
    obtain ⟨vs, rfl, hv, hok, m, rfl, hl, hQ⟩ := h
    have h1 := ext_good hT (s46 hT)
    have h2 := ext_good h1 (s90 h1)
    exact abody_sound h2.ok h2.ang h2.mono mixedT Tryz.func88 (entersOf Tryz.func88 (by kernel_rfl) rfl) (f89_ok vs hv hok m bad hl T _ (wend hQ) _ (Nat.lt_succ_self _))
  · exact h.elim) g89_one


def g92 : WSpec := fun args l bad K => match args with
  | [.slice es] => ∃ vs : List RqV, es = rqCL vs ∧ vs.length ≤ 1099511627776 ∧ (∀ v ∈ vs, okR v) ∧ wspec (wList (vs.map wReq)) l bad K
  | _ => False
theorem g92_det (args : List AV) (l : List (List AV)) (bad : Bool) : WDet (g92 args l bad) := by
  unfold g92
  split
  · exact WDet.ex fun _ => WDet.and (WDet.and (WDet.and (wspec_det _ _ _)))
  · exact WDet.no
theorem g92_one (args : List AV) (l : List (List AV)) (bad : Bool) (Q : AV → List (List AV) → Bool → Prop) (h : g92 args l bad Q) : ∃ x, args = [x] := by
  unfold g92 at h
  split at h
  · exact ⟨_, rfl⟩
  · exact h.elim

set_option maxRecDepth 100000 in
set_option maxHeartbeats 4000000 in
theorem f92_loop (vs : List RqV) (hv : vs.length ≤ 1099511627776) (hok : ∀ v ∈ vs, okR v) (s1 : WS) (hs1 : s1.2 = false) (hl : (wSeq (vs.map wReq) s1).1.length ≤ 1099511627776) (T : Tab) (Q : AOut → Heap → Prop)
    (hQ : Q (.ret (.tuple [])) [wvar 2 (wSeq (vs.map wReq) s1).2, .dead, wrow (bsA (wSeq (vs.map wReq) s1).1)]) (m : List Int) (bad : Bool) (h0 : wNum vs.length (m, bad || decide ((vs.length : Int) > 64)) = s1) (h0l : s1.1.length ≤ 1099511627776) (N : Nat) (hN : vs.length < N) :
    abody Tryz.prog (ext (ext T 48 (writerT g46)) 86 (writerT g87)) 2 N Tryz.f91 [.ptr 0 0, .slice (rqCL vs), .func (.func 86) [.ptr 0 0] []] [wvar 1 bad, wrow (bsA m)] Q := by
  have hlen : (rqCL vs).length = vs.length := by simp [rqCL]
  have hlenI : (((rqCL vs).length : Nat) : Int) = (vs.length : Int) := by rw [hlen]
  cases bad with
  | true => exfalso; rw [← h0] at hs1; simp [wNum] at hs1
  | false =>
    conv => whnf
    rw [hlenI]
    refine ⟨m, rfl, ?_, ?_⟩
    · refine Nat.le_trans (Nat.le_of_eq ?_) h0l
      rw [← h0]
      rfl
    conv => whnf
    split
    · rename_i h1
      have h2 : (wNum (vs.length : Int) (m, false || decide ((vs.length : Int) > 64))).2 = true := h1
      rw [h0, hs1] at h2
      cases h2
    rename_i h1
    conv => whnf
    refine aloop_at ?_ ?_ (aloop_inv (σ := Nat) (fun i => ((sp 0 38 [(2, .func (.func 86) [.ptr 0 0] []), (28, .slice (rqCL vs)), (29, .int .i64 ((rqCL vs).length : Nat)), (30, .int .i64 (i : Nat))]), [wvar 2 (wSeq ((vs.take i).map wReq) s1).2, .dead, wrow (bsA (wSeq ((vs.take i).map wReq) s1).1)]))
      (fun i => i ≤ vs.length) (fun i => vs.length - i) ?_ N 0 (Nat.zero_le _) (by omega))
    · kernel_rfl
    · rw [← h0]; kernel_rfl
    intro i hi R hR
    conv => whnf
    split
    rotate_left
    · rename_i h2; have h2 : ¬ (i : Int) < (rqCL vs).length := of_decide_eq_false h2
      rw [hlen] at h2
      rw [← List.take_of_length_le (show vs.length ≤ i by omega)] at hQ
      refine Eq.mp ?_ hQ
      kernel_rfl
    rename_i h2; have h2 : (i : Int) < (rqCL vs).length := of_decide_eq_true h2
    rw [hlen] at h2
    obtain ⟨v, hx⟩ : ∃ v, vs[i]? = some v := ⟨vs[i]'(by omega), List.getElem?_eq_getElem (by omega)⟩
    have hxa : (rqCL vs)[i]? = some (rqC v) := by simp [rqCL, hx]
    have hokv := hok v (List.mem_of_getElem? hx)
    have hstep : wSeq ((vs.take (i + 1)).map wReq) s1 = wReq v (wSeq ((vs.take i).map wReq) s1) := wSeq_take vs wReq i v hx s1
    have hle : (wReq v (wSeq ((vs.take i).map wReq) s1)).1.length ≤ 1099511627776 := by
      rw [← hstep]
      exact Nat.le_trans (wSeq_take_le vs wReq wReq_le (i + 1) s1) hl
    have hi1 : IntKind.i64.wrap ((i : Int) + 1) = ((i + 1 : Nat) : Int) := by rw [IntWalk.i64_in _ (by omega)]; omega
    conv => whnf
    refine ⟨by omega, by rw [hlen]; omega, _, hxa, by kernel_rfl, ?_⟩
    conv => whnf
    refine ⟨v, rfl, hokv, _, rfl, hle, ?_⟩
    conv => whnf
    refine R_at ?_ ?_ (hR (i + 1) (by omega) (by omega))
    · rw [← hi1]; kernel_rfl
    · rw [hstep]; kernel_rfl

set_option maxRecDepth 100000 in
set_option maxHeartbeats 4000000 in
theorem f92_ok (vs : List RqV) (hv : vs.length ≤ 1099511627776) (hok : ∀ v ∈ vs, okR v) (m : List Int) (bad : Bool) (hl : (wList (vs.map wReq) (m, bad)).1.length ≤ 1099511627776) (T : Tab) (Q : AOut → Heap → Prop)
    (hQ : Q (.ret (.tuple [])) [wvar 2 (wList (vs.map wReq) (m, bad)).2, .dead, wrow (bsA (wList (vs.map wReq) (m, bad)).1)]) (N : Nat) (hN : vs.length < N) :
    abody Tryz.prog (ext (ext T 48 (writerT g46)) 86 (writerT g87)) 2 N Tryz.f91 [.ptr 0 0, .slice (rqCL vs), .func (.func 86) [.ptr 0 0] []] [wvar 1 bad, wrow (bsA m)] Q := by
  have hlen : (rqCL vs).length = vs.length := by simp [rqCL]
  have hlenI : (((rqCL vs).length : Nat) : Int) = (vs.length : Int) := by rw [hlen]
  have hml : ((vs.map wReq).length : Int) = (vs.length : Int) := by rw [List.length_map]
  unfold wList at hQ hl
  rw [hml] at hQ hl
  dsimp only at hQ hl
  generalize h0 : wNum vs.length (m, bad || decide ((vs.length : Int) > 64)) = s1 at hQ hl
  cases hb : s1.2 with
  | false =>
    rw [hb] at hQ hl
    exact f92_loop vs hv hok s1 hb hl T Q hQ m bad h0 (Nat.le_trans (wSeq_le _ (fun e he s => by
      obtain ⟨v, _, rfl⟩ := List.mem_map.1 he
      exact wReq_le v s) s1) hl) N hN
  | true =>
    rw [hb] at hQ hl
    have hQ' : Q (.ret (.tuple [])) [wvar 2 s1.2, .dead, wrow (bsA s1.1)] := hQ
    have hl' : s1.1.length ≤ 1099511627776 := hl
    rw [hb] at hQ'
    cases bad with
    | true =>
      conv => whnf
      rw [hlenI]
      refine ⟨m, rfl, ?_, ?_⟩
      · refine Nat.le_trans (Nat.le_of_eq ?_) hl'
        rw [← h0]
        rfl
      conv => whnf
      have e1 : s1.1 = (wNum vs.length (m, true)).1 := by rw [← h0]; rfl
      rw [e1] at hQ'
      refine Eq.mp ?_ hQ'
      kernel_rfl
    | false =>
      conv => whnf
      rw [hlenI]
      refine ⟨m, rfl, ?_, ?_⟩
      · refine Nat.le_trans (Nat.le_of_eq ?_) hl'
        rw [← h0]
        rfl
      conv => whnf
      split
      · rename_i h1
        have e1 : s1.1 = (wNum vs.length (m, false || decide ((vs.length : Int) > 64))).1 := by rw [← h0]
        have e2 : (wNum vs.length (m, false || decide ((vs.length : Int) > 64))).2 = true := by rw [h0]; exact hb
        conv => whnf
        rw [e1, ← e2] at hQ'
        refine Eq.mp ?_ hQ'
        kernel_rfl
      · rename_i h1
        have h2 : (wNum (vs.length : Int) (m, false || decide ((vs.length : Int) > 64))).2 = false := h1
        rw [h0, hb] at h2
        cases h2

set_option maxRecDepth 100000 in
theorem s92 {T : Tab} (hT : TGood Tryz.prog T) : SGood Tryz.prog 91 (listT 86 g92) := listT_good g92_det (fun x l bad Q h => by
  unfold g92 at h
  split at h
  · rename_i es heq
    cases heq
    obtain ⟨vs, rfl, hv, hok, m, rfl, hl, hQ⟩ := h
    have h1 := ext_good hT (s46 hT)
    have h2 := ext_good h1 (s87 h1)
    exact abody_sound h2.ok h2.ang h2.mono mixedT Tryz.func91 (entersOf Tryz.func91 (by kernel_rfl) rfl) (f92_ok vs hv hok m bad hl T _ (wend hQ) _ (Nat.lt_succ_self _))
  · exact h.elim) g92_one

end Go.Abs

/-
msg.list of numbers is what it comes to; (*msg.writer).prep.
-/
namespace Go.Abs
open Go Go.Proofs


def g91 : WSpec := fun args l bad K => match args with
  | [.slice es] => ∃ vs : List Int, es = inCL vs ∧ vs.length ≤ 1099511627776 ∧ (∀ v ∈ vs, True) ∧ wspec (wList (vs.map wNum)) l bad K
  | _ => False
theorem g91_det (args : List AV) (l : List (List AV)) (bad : Bool) : WDet (g91 args l bad) := by
  unfold g91
  split
  · exact WDet.ex fun _ => WDet.and (WDet.and (WDet.and (wspec_det _ _ _)))
  · exact WDet.no
theorem g91_one (args : List AV) (l : List (List AV)) (bad : Bool) (Q : AV → List (List AV) → Bool → Prop) (h : g91 args l bad Q) : ∃ x, args = [x] := by
  unfold g91 at h
  split at h
  · exact ⟨_, rfl⟩
  · exact h.elim

set_option maxRecDepth 100000 in
set_option maxHeartbeats 4000000 in
theorem f91_loop (vs : List Int) (hv : vs.length ≤ 1099511627776) (hok : ∀ v ∈ vs, True) (s1 : WS) (hs1 : s1.2 = false) (hl : (wSeq (vs.map wNum) s1).1.length ≤ 1099511627776) (T : Tab) (Q : AOut → Heap → Prop)
    (hQ : Q (.ret (.tuple [])) [wvar 2 (wSeq (vs.map wNum) s1).2, .dead, wrow (bsA (wSeq (vs.map wNum) s1).1)]) (m : List Int) (bad : Bool) (h0 : wNum vs.length (m, bad || decide ((vs.length : Int) > 64)) = s1) (h0l : s1.1.length ≤ 1099511627776) (N : Nat) (hN : vs.length < N) :
    abody Tryz.prog (ext T 48 (writerT g46)) 2 N Tryz.f90 [.ptr 0 0, .slice (inCL vs), .func (.func 48) [.ptr 0 0] []] [wvar 1 bad, wrow (bsA m)] Q := by
  have hlen : (inCL vs).length = vs.length := by simp [inCL]
  have hlenI : (((inCL vs).length : Nat) : Int) = (vs.length : Int) := by rw [hlen]
  cases bad with
  | true => exfalso; rw [← h0] at hs1; simp [wNum] at hs1
  | false =>
    conv => whnf
    rw [hlenI]
    refine ⟨m, rfl, ?_, ?_⟩
    · refine Nat.le_trans (Nat.le_of_eq ?_) h0l
      rw [← h0]
      rfl
    conv => whnf
    split
    · rename_i h1
      have h2 : (wNum (vs.length : Int) (m, false || decide ((vs.length : Int) > 64))).2 = true := h1
      rw [h0, hs1] at h2
      cases h2
    rename_i h1
    conv => whnf
    refine aloop_at ?_ ?_ (aloop_inv (σ := Nat) (fun i => ((sp 0 38 [(2, .func (.func 48) [.ptr 0 0] []), (28, .slice (inCL vs)), (29, .int .i64 ((inCL vs).length : Nat)), (30, .int .i64 (i : Nat))]), [wvar 2 (wSeq ((vs.take i).map wNum) s1).2, .dead, wrow (bsA (wSeq ((vs.take i).map wNum) s1).1)]))
      (fun i => i ≤ vs.length) (fun i => vs.length - i) ?_ N 0 (Nat.zero_le _) (by omega))
    · kernel_rfl
    · rw [← h0]; kernel_rfl
    intro i hi R hR
    conv => whnf
    split
    rotate_left
    · rename_i h2; have h2 : ¬ (i : Int) < (inCL vs).length := of_decide_eq_false h2
      rw [hlen] at h2
      rw [← List.take_of_length_le (show vs.length ≤ i by omega)] at hQ
      refine Eq.mp ?_ hQ
      kernel_rfl
    rename_i h2; have h2 : (i : Int) < (inCL vs).length := of_decide_eq_true h2
    rw [hlen] at h2
    obtain ⟨v, hx⟩ : ∃ v, vs[i]? = some v := ⟨vs[i]'(by omega), List.getElem?_eq_getElem (by omega)⟩
    have hxa : (inCL vs)[i]? = some (inC v) := by simp [inCL, hx]
    have hokv := hok v (List.mem_of_getElem? hx)
    have hstep : wSeq ((vs.take (i + 1)).map wNum) s1 = wNum v (wSeq ((vs.take i).map wNum) s1) := wSeq_take vs wNum i v hx s1
    have hle : (wNum v (wSeq ((vs.take i).map wNum) s1)).1.length ≤ 1099511627776 := by
      rw [← hstep]
      exact Nat.le_trans (wSeq_take_le vs wNum wNum_le (i + 1) s1) hl
    have hi1 : IntKind.i64.wrap ((i : Int) + 1) = ((i + 1 : Nat) : Int) := by rw [IntWalk.i64_in _ (by omega)]; omega
    conv => whnf
    refine ⟨by omega, by rw [hlen]; omega, _, hxa, by kernel_rfl, ?_⟩
    conv => whnf
    refine ⟨_, rfl, hle, ?_⟩
    conv => whnf
    refine R_at ?_ ?_ (hR (i + 1) (by omega) (by omega))
    · rw [← hi1]; kernel_rfl
    · rw [hstep]; kernel_rfl

set_option maxRecDepth 100000 in
set_option maxHeartbeats 4000000 in
theorem f91_ok (vs : List Int) (hv : vs.length ≤ 1099511627776) (hok : ∀ v ∈ vs, True) (m : List Int) (bad : Bool) (hl : (wList (vs.map wNum) (m, bad)).1.length ≤ 1099511627776) (T : Tab) (Q : AOut → Heap → Prop)
    (hQ : Q (.ret (.tuple [])) [wvar 2 (wList (vs.map wNum) (m, bad)).2, .dead, wrow (bsA (wList (vs.map wNum) (m, bad)).1)]) (N : Nat) (hN : vs.length < N) :
    abody Tryz.prog (ext T 48 (writerT g46)) 2 N Tryz.f90 [.ptr 0 0, .slice (inCL vs), .func (.func 48) [.ptr 0 0] []] [wvar 1 bad, wrow (bsA m)] Q := by
  have hlen : (inCL vs).length = vs.length := by simp [inCL]
  have hlenI : (((inCL vs).length : Nat) : Int) = (vs.length : Int) := by rw [hlen]
  have hml : ((vs.map wNum).length : Int) = (vs.length : Int) := by rw [List.length_map]
  unfold wList at hQ hl
  rw [hml] at hQ hl
  dsimp only at hQ hl
  generalize h0 : wNum vs.length (m, bad || decide ((vs.length : Int) > 64)) = s1 at hQ hl
  cases hb : s1.2 with
  | false =>
    rw [hb] at hQ hl
    exact f91_loop vs hv hok s1 hb hl T Q hQ m bad h0 (Nat.le_trans (wSeq_le _ (fun e he s => by
      obtain ⟨v, _, rfl⟩ := List.mem_map.1 he
      exact wNum_le v s) s1) hl) N hN
  | true =>
    rw [hb] at hQ hl
    have hQ' : Q (.ret (.tuple [])) [wvar 2 s1.2, .dead, wrow (bsA s1.1)] := hQ
    have hl' : s1.1.length ≤ 1099511627776 := hl
    rw [hb] at hQ'
    cases bad with
    | true =>
      conv => whnf
      rw [hlenI]
      refine ⟨m, rfl, ?_, ?_⟩
      · refine Nat.le_trans (Nat.le_of_eq ?_) hl'
        rw [← h0]
        rfl
      conv => whnf
      have e1 : s1.1 = (wNum vs.length (m, true)).1 := by rw [← h0]; rfl
      rw [e1] at hQ'
      refine Eq.mp ?_ hQ'
      kernel_rfl
    | false =>
      conv => whnf
      rw [hlenI]
      refine ⟨m, rfl, ?_, ?_⟩
      · refine Nat.le_trans (Nat.le_of_eq ?_) hl'
        rw [← h0]
        rfl
      conv => whnf
      split
      · rename_i h1
        have e1 : s1.1 = (wNum vs.length (m, false || decide ((vs.length : Int) > 64))).1 := by rw [← h0]
        have e2 : (wNum vs.length (m, false || decide ((vs.length : Int) > 64))).2 = true := by rw [h0]; exact hb
        conv => whnf
        rw [e1, ← e2] at hQ'
        refine Eq.mp ?_ hQ'
        kernel_rfl
      · rename_i h1
        have h2 : (wNum (vs.length : Int) (m, false || decide ((vs.length : Int) > 64))).2 = false := h1
        rw [h0, hb] at h2
        cases h2

set_option maxRecDepth 100000 in
theorem s91 {T : Tab} (hT : TGood Tryz.prog T) : SGood Tryz.prog 90 (listT 48 g91) := listT_good g91_det (fun x l bad Q h => by
  unfold g91 at h
  split at h
  · rename_i es heq
    cases heq
    obtain ⟨vs, rfl, hv, hok, m, rfl, hl, hQ⟩ := h
    have h1 := ext_good hT (s46 hT)
    have h2 := h1
    exact abody_sound h2.ok h2.ang h2.mono mixedT Tryz.func90 (entersOf Tryz.func90 (by kernel_rfl) rfl) (f91_ok vs hv hok m bad hl T _ (wend hQ) _ (Nat.lt_succ_self _))
  · exact h.elim) g91_one


structure PrV where
  slot : Int
  bal : BalV
  req : RqV
  cert : List VtV
def prC (p : PrV) : List AV := [.int .i64 p.slot, .int .i64 p.bal.view, .int .i64 p.bal.turn, .int .i64 p.req.client, .int .i64 p.req.stamp, .slice (bsA p.req.op), .slice (bsA p.req.sig), .slice (vtCL p.cert)]
def prCL (l : List PrV) : List (List AV) := l.map prC
def okVL (l : List VtV) : Prop := l.length ≤ 1099511627776 ∧ ∀ v ∈ l, okT v.sig
def okPr (p : PrV) : Prop := okR p.req ∧ okVL p.cert
def wVotes (l : List VtV) (s : WS) : WS := wList (l.map wVote) s
theorem wVotes_le (l : List VtV) (s : WS) : s.1.length ≤ (wVotes l s).1.length := wListM_le l wVote wVote_le s
def wPrep (p : PrV) (s : WS) : WS := wVotes p.cert (wReq p.req (wBal p.bal (wNum p.slot s)))
theorem wPrep_le (p : PrV) (s : WS) : s.1.length ≤ (wPrep p s).1.length := Nat.le_trans (wNum_le _ _) (Nat.le_trans (wBal_le _ _) (Nat.le_trans (wReq_le _ _) (wVotes_le _ _)))

def g129 : WSpec := fun args l bad K => match args with
  | [.agg cs] => ∃ p : PrV, cs = prC p ∧ okPr p ∧ wspec (wPrep p) l bad K
  | _ => False
theorem g129_det (args : List AV) (l : List (List AV)) (bad : Bool) : WDet (g129 args l bad) := by
  unfold g129
  split
  · exact WDet.ex fun _ => WDet.and (WDet.and (wspec_det _ _ _))
  · exact WDet.no

set_option maxRecDepth 100000 in
set_option maxHeartbeats 4000000 in
theorem f129_ok (p : PrV) (hp : okPr p) (m : List Int) (bad : Bool) (hl : (wPrep p (m, bad)).1.length ≤ 1099511627776) (T : Tab) (Q : AOut → Heap → Prop)
    (hQ : Q (.ret (.tuple [])) [wvar 2 (wPrep p (m, bad)).2, .dead, wrow (bsA (wPrep p (m, bad)).1)]) (N : Nat) :
    abody Tryz.prog (ext (ext (ext (ext T 48 (writerT g46)) 85 (writerT g86)) 86 (writerT g87)) 88 (listT 89 g89)) 2 N Tryz.f140 [.ptr 0 0, .agg (prC p)] [wvar 1 bad, wrow (bsA m)] Q := by
  have l3 := Nat.le_trans (wVotes_le p.cert (wReq p.req (wBal p.bal (wNum p.slot (m, bad))))) hl
  have l2 := Nat.le_trans (wReq_le p.req (wBal p.bal (wNum p.slot (m, bad)))) l3
  have l1 := Nat.le_trans (wBal_le p.bal (wNum p.slot (m, bad))) l2
  conv => whnf
  refine ⟨m, rfl, l1, ?_⟩
  conv => whnf
  refine ⟨p.bal, rfl, _, rfl, l2, ?_⟩
  conv => whnf
  refine ⟨p.req, rfl, hp.1, _, rfl, l3, ?_⟩
  conv => whnf
  refine ⟨p.cert, rfl, hp.2.1, hp.2.2, _, rfl, hl, ?_⟩
  conv => whnf
  refine Eq.mp ?_ hQ
  kernel_rfl

set_option maxRecDepth 100000 in
theorem s129 {T : Tab} (hT : TGood Tryz.prog T) : SGood Tryz.prog 140 (writerT g129) := writerT_good g129_det fun args l bad Q h => by
  unfold g129 at h
  split at h
  · obtain ⟨p, rfl, hp, m, rfl, hl, hQ⟩ := h
    have h1 := ext_good hT (s46 hT)
    have h2 := ext_good h1 (s86 h1)
    have h3 := ext_good h2 (s87 h2)
    have h4 := ext_good h3 (s89 h3)
    exact abody_sound h4.ok h4.ang h4.mono mixedT Tryz.func140 (entersOf Tryz.func140 (by kernel_rfl) rfl) (f129_ok p hp m bad hl T _ (wend hQ) 0)
  · exact h.elim

end Go.Abs

