/-
An abstract machine over values as trees: how a state goes on when an object is made, written or given up.
-/
import Derived.Test.YtmainkiflkagjaaGreatDoorAbw1
import Derived.Laws.StructEq
import Derived.Stop.IfaceNil
import Derived.Laws.Pointers
namespace Go.Abs
open Go

theorem cell_of {w : World} {k i : Nat} {cs : Array Value} {t : TypeId} {fr : Nat × Nat} (h : w.heap[k]? = some (.cells cs t fr)) : w.cell? ⟨k, i, none⟩ = cs[i]? :=
  cell_of_row w k i cs t fr h
theorem cell_lt {w : World} {k i : Nat} {v : Value} (h : w.cell? ⟨k, i, none⟩ = some v) : k < w.heap.size := World.block_lt_of_cell? w _ h
theorem heap_lt {w : World} {k : Nat} {o : Obj} (h : w.heap[k]? = some o) : k < w.heap.size := by
  rcases Nat.lt_or_ge k w.heap.size with h' | h'
  · exact h'
  · rw [Array.getElem?_eq_none h'] at h; cases h

theorem ObjR.mono {w w' : World} {M M' : Mut} {n n' : Nat} {G G' : Gh} {l : Option Loc} {o : HO}
    (hcell : ∀ k i v, w.cell? ⟨k, i, none⟩ = some v → ¬ M k i → w'.cell? ⟨k, i, none⟩ = some v ∧ ¬ M' k i)
    (hn : n ≤ n') (hg : ∀ b l, b < n → G' b = some l → G b = some l)
    (hb : ∀ l0 k, l = some l0 → l0.block = some k → w'.heap[k]? = w.heap[k]?) (h : ObjR w M n G l o) : ObjR w' M' n' G' l o := by
  cases o with
  | dead => exact h
  | var cs =>
    obtain ⟨k, cv, t, rfl, hk, hs, hc⟩ := h
    exact ⟨k, cv, t, rfl, (hb _ k rfl rfl).trans hk, hs, fun i v x a b => ⟨(hc i v x a b).1, (hc i v x a b).2.mono hcell hn hg⟩⟩
  | row wr e sz es =>
    obtain ⟨h0, hl, h⟩ := h
    refine ⟨h0, hl, ?_⟩
    rcases h with ⟨rfl, a, rfl⟩ | ⟨g, cap, cur, rfl, hk, h1, h2, h3, h4, h5⟩
    · exact .inl ⟨rfl, a, rfl⟩
    · exact .inr ⟨g, cap, cur, rfl, (hb _ g rfl rfl).trans hk, h1, h2, h3, h4, fun i el j x u a b c => (h5 i el j x u a b c).mono hcell (Nat.le_refl _) (fun _ _ _ h => h)⟩
  | iter s pos =>
    obtain ⟨k, rfl, hk⟩ := h
    exact ⟨k, rfl, (hb _ k rfl rfl).trans hk⟩

theorem ObjR.dead_iff {w : World} {M : Mut} {n : Nat} {G : Gh} {l : Option Loc} {o : HO} (h : ObjR w M n G l o) : l = none ↔ o = .dead := by
  cases o with
  | dead => simp [show l = none from h]
  | var cs => obtain ⟨k, cv, t, rfl, _⟩ := h; simp
  | row wr e sz es => obtain ⟨_, _, ⟨_, a, rfl⟩ | ⟨g, cap, cur, rfl, _⟩⟩ := h <;> simp
  | iter s pos => obtain ⟨k, rfl, _⟩ := h; simp

/-- The block of an object is there. -/
theorem ObjR.lt {w : World} {M : Mut} {n : Nat} {G : Gh} {l : Loc} {o : HO} (h : ObjR w M n G (some l) o) {k : Nat} (hk : l.block = some k) : k < w.heap.size := by
  cases o with
  | dead => cases (show some l = none from h)
  | var cs => obtain ⟨k', cv, t, hl, hh, _⟩ := h; cases hl; simp only [Loc.block, Option.some.injEq] at hk; subst hk; exact heap_lt hh
  | row wr e sz es =>
    obtain ⟨_, _, ⟨_, a, hl⟩ | ⟨g, cap, cur, hl, hh, _⟩⟩ := h
    · cases hl; simp [Loc.block] at hk
    · cases hl; simp only [Loc.block, if_true, Value.ownBlock, Option.some.injEq] at hk; subst hk; exact heap_lt hh
  | iter s pos => obtain ⟨k', hl, hh⟩ := h; cases hl; simp only [Loc.block, Option.some.injEq] at hk; subst hk; exact heap_lt hh

theorem Sim.blk_lt {Mx : Mut} {G : Gh} {H : Heap} {w : World} (hs : Sim Mx G H w) {b : Nat} {l : Loc} {k : Nat} (hg : G b = some l) (hk : l.block = some k) : k < w.heap.size := by
  have hb := hs.dom b l hg
  have ho := hs.obj b H[b] (List.getElem?_eq_getElem hb)
  rw [hg] at ho
  exact ho.lt hk

def gput (G : Gh) (b : Nat) (l : Option Loc) : Gh := fun c => if c = b then l else G c
theorem gput_same (G : Gh) (b : Nat) (l : Option Loc) : gput G b l b = l := by simp [gput]
theorem gput_other (G : Gh) {b c : Nat} (l : Option Loc) (h : c ≠ b) : gput G b l c = G c := by simp [gput, h]

/-- Behind a draw. -/
theorem Sim.drew {Mx : Mut} {G : Gh} {H : Heap} {w : World} (hs : Sim Mx G H w) : Sim Mx G H w.drew ∧ Step H.length Mx G H w G H w.drew := by
  refine ⟨⟨hs.dom, fun b o h => ?_, hs.inj, hs.ext, hs.lt⟩, ⟨rfl, rfl, rfl, Nat.le_refl _, ⟨Nat.le_refl _, Nat.le_refl _⟩, fun _ _ _ => rfl, fun _ _ _ h1 h2 => ⟨h1, h2⟩, fun _ _ _ h => h, fun b l _ h1 h2 => .inl ⟨b, l, h1, h2⟩⟩⟩
  exact ObjR.mono (w := w) (w' := w.drew) (fun _ _ _ h1 h2 => ⟨h1, h2⟩) (Nat.le_refl _) (fun _ _ _ h => h) (fun _ _ _ _ => rfl) (hs.obj b o h)

/-- A world in which new blocks stand, nothing else: the same state. -/
theorem Sim.below {Mx : Mut} {G : Gh} {H : Heap} {w w' : World} (hs : Sim Mx G H w) (hb : RowKit.Below w.heap.size w w') : Sim Mx G H w' ∧ Step H.length Mx G H w G H w' := by
  have hcell : ∀ k i v, w.cell? ⟨k, i, none⟩ = some v → ¬ MM Mx G H k i → w'.cell? ⟨k, i, none⟩ = some v ∧ ¬ MM Mx G H k i := fun k i v h1 h2 =>
    ⟨(hb.cell (p := ⟨k, i, none⟩) (cell_lt h1)).trans h1, h2⟩
  refine ⟨⟨hs.dom, fun b o h => ?_, hs.inj, hs.ext, fun k i h => Nat.lt_of_lt_of_le (hs.lt k i h) hb.size⟩, ⟨hb.os, hb.tape, hb.output, hb.size, ⟨Nat.le_refl _, Nat.le_refl _⟩, fun k hk _ => hb.block k hk, hcell, fun _ _ _ h => h, fun b l _ h1 h2 => .inl ⟨b, l, h1, h2⟩⟩⟩
  exact (hs.obj b o h).mono hcell (Nat.le_refl _) (fun _ _ _ h => h) (fun l k hl hk => hb.block k (hs.blk_lt hl hk))

/-- A new object in a new block (or in none). -/
theorem Sim.push {Mx : Mut} {G : Gh} {H : Heap} {w w' : World} (hs : Sim Mx G H w) (hb : RowKit.Below w.heap.size w w') {o : HO} {l : Loc}
    (hl : ∀ k, l.block = some k → w.heap.size ≤ k)
    (ho : ObjR w' (MM Mx (gput G H.length (some l)) (H ++ [o])) (H.length + 1) (gput G H.length (some l)) (some l) o) :
    Sim Mx (gput G H.length (some l)) (H ++ [o]) w' ∧ Step H.length Mx G H w (gput G H.length (some l)) (H ++ [o]) w' := by
  have hnew : ∀ b l1, b < H.length → gput G H.length (some l) b = some l1 → G b = some l1 := fun b l1 hb h => by rwa [gput_other G _ (by omega)] at h
  have hmm : ∀ k i, k < w.heap.size → ¬ MM Mx G H k i → ¬ MM Mx (gput G H.length (some l)) (H ++ [o]) k i := by
    rintro k i hk hm (hx | ⟨b, l1, o1, hg, hH, hbk, hmu⟩)
    · exact hm (.inl hx)
    · by_cases hbl : b = H.length
      · subst hbl
        rw [gput_same] at hg
        cases hg
        have := hl k hbk
        omega
      · rw [gput_other G _ hbl] at hg
        have hlt := hs.dom b l1 hg
        rw [List.getElem?_append_left hlt] at hH
        exact hm (.inr ⟨b, l1, o1, hg, hH, hbk, hmu⟩)
  have hcell : ∀ k i v, w.cell? ⟨k, i, none⟩ = some v → ¬ MM Mx G H k i → w'.cell? ⟨k, i, none⟩ = some v ∧ ¬ MM Mx (gput G H.length (some l)) (H ++ [o]) k i := fun k i v h1 h2 =>
    ⟨(hb.cell (p := ⟨k, i, none⟩) (cell_lt h1)).trans h1, hmm k i (cell_lt h1) h2⟩
  refine ⟨⟨?_, ?_, ?_, ?_, fun k i h => Nat.lt_of_lt_of_le (hs.lt k i h) hb.size⟩, ⟨hb.os, hb.tape, hb.output, hb.size, ⟨Nat.le_refl _, by simp⟩, fun k hk _ => hb.block k hk, hcell, hnew, ?_⟩⟩
  · intro b l1 h
    by_cases hbl : b = H.length
    · simp [hbl]
    · rw [gput_other G _ hbl] at h
      have := hs.dom b l1 h
      simp; omega
  · intro b o1 h
    by_cases hbl : b = H.length
    · subst hbl
      simp only [List.getElem?_append_right (Nat.le_refl _), Nat.sub_self, List.getElem?_cons_zero, Option.some.injEq] at h
      subst h
      rw [gput_same]
      simpa using ho
    · have hlt : b < H.length := by
        have := (List.getElem?_eq_some_iff.1 h).1
        simp at this; omega
      rw [List.getElem?_append_left hlt] at h
      rw [gput_other G _ hbl]
      refine (hs.obj b o1 h).mono hcell (by simp) hnew (fun l0 k hl0 hk => hb.block k (hs.blk_lt hl0 hk))
  · intro b b' l1 l2 k h1 h2 k1 k2
    by_cases hbl : b = H.length <;> by_cases hbl' : b' = H.length
    · omega
    · subst hbl
      rw [gput_same] at h1
      rw [gput_other G _ hbl'] at h2
      cases h1
      have := hl k k1
      have := hs.blk_lt h2 k2
      omega
    · subst hbl'
      rw [gput_same] at h2
      rw [gput_other G _ hbl] at h1
      cases h2
      have := hl k k2
      have := hs.blk_lt h1 k1
      omega
    · rw [gput_other G _ hbl] at h1
      rw [gput_other G _ hbl'] at h2
      exact hs.inj b b' l1 l2 k h1 h2 k1 k2
  · intro b l1 k i h hk hx
    by_cases hbl : b = H.length
    · subst hbl
      rw [gput_same] at h
      cases h
      have := hl k hk
      have := hs.lt k i hx
      omega
    · rw [gput_other G _ hbl] at h
      exact hs.ext b l1 k i h hk hx
  · intro b l1 k h hk
    by_cases hbl : b = H.length
    · subst hbl
      rw [gput_same] at h
      cases h
      exact .inr (hl k hk)
    · rw [gput_other G _ hbl] at h
      exact .inl ⟨b, l1, h, hk⟩

/-- An object is written: its block alone turns, and of that no cell that mayn't be written. -/
theorem Sim.put {Mx : Mut} {G : Gh} {H : Heap} {w w' : World} (hs : Sim Mx G H w) {b : Nat} {l : Loc} {o o' : HO} {kb : Nat} (hG : G b = some l) (hH : H[b]? = some o) (hkb : l.block = some kb)
    (hos : w'.os = w.os) (htp : w'.tape = w.tape) (hout : w'.output = w.output) (hsz : w'.heap.size = w.heap.size)
    (hfar : ∀ k, k ≠ kb → w'.heap[k]? = w.heap[k]?) (hmut : ∀ i, o'.mut i → o.mut i)
    (hown : ∀ i v, w.cell? ⟨kb, i, none⟩ = some v → ¬ o.mut i → w'.cell? ⟨kb, i, none⟩ = some v)
    (ho : (∀ k i v, w.cell? ⟨k, i, none⟩ = some v → ¬ MM Mx G H k i → w'.cell? ⟨k, i, none⟩ = some v ∧ ¬ MM Mx G (H.set b o') k i) → ObjR w' (MM Mx G (H.set b o')) H.length G (some l) o') :
    Sim Mx G (H.set b o') w' ∧ Step H.length Mx G H w G (H.set b o') w' := by
  have hlt : b < H.length := (List.getElem?_eq_some_iff.1 hH).1
  have hmm : ∀ k i, ¬ MM Mx G H k i → ¬ MM Mx G (H.set b o') k i := by
    rintro k i hm (hx | ⟨b1, l1, o1, hg, hH1, hbk, hmu⟩)
    · exact hm (.inl hx)
    · by_cases hbl : b1 = b
      · subst hbl
        rw [List.getElem?_set_self hlt] at hH1
        cases hH1
        exact hm (.inr ⟨b1, l1, o, hg, hH, hbk, hmut i hmu⟩)
      · rw [List.getElem?_set_ne (fun e => hbl e.symm)] at hH1
        exact hm (.inr ⟨b1, l1, o1, hg, hH1, hbk, hmu⟩)
  have hcell : ∀ k i v, w.cell? ⟨k, i, none⟩ = some v → ¬ MM Mx G H k i → w'.cell? ⟨k, i, none⟩ = some v ∧ ¬ MM Mx G (H.set b o') k i := by
    intro k i v h1 h2
    refine ⟨?_, hmm k i h2⟩
    by_cases hk : k = kb
    · subst hk
      exact hown i v h1 (fun hm => h2 (.inr ⟨b, l, o, hG, hH, hkb, hm⟩))
    · rw [World.cell?_of_block (a := ⟨k, i, none⟩) (hfar k hk)]
      exact h1
  refine ⟨⟨fun b1 l1 h => by simpa using hs.dom b1 l1 h, ?_, hs.inj, hs.ext, fun k i h => by rw [hsz]; exact hs.lt k i h⟩, ⟨hos, htp, hout, by omega, ⟨Nat.le_refl _, by simp⟩, fun k hk hn => hfar k (fun e => hn b l hG (e ▸ hkb)), hcell, fun _ _ _ h => h, fun b1 l1 _ h1 h2 => .inl ⟨b1, l1, h1, h2⟩⟩⟩
  intro b1 o1 h
  by_cases hbl : b1 = b
  · subst hbl
    rw [List.getElem?_set_self hlt] at h
    cases h
    rw [hG]
    simpa using ho hcell
  · rw [List.getElem?_set_ne (fun e => hbl e.symm)] at h
    refine (hs.obj b1 o1 h).mono hcell (by simp) (fun _ _ _ h => h) (fun l0 k hl0 hk => hfar k (fun e => ?_))
    subst e
    exact hbl (hs.inj b1 b l0 l k hl0 hG hk hkb)

/-- A row is frozen. -/
theorem Sim.freeze {Mx : Mut} {G : Gh} {H : Heap} {w : World} (hs : Sim Mx G H w) {b : Nat} {wr : Bool} {e sz : Nat} {es : List (List AV)} (hH : H[b]? = some (.row wr e sz es)) :
    Sim Mx G (H.set b (.row false e sz es)) w ∧ Step H.length Mx G H w G (H.set b (.row false e sz es)) w := by
  have hlt : b < H.length := (List.getElem?_eq_some_iff.1 hH).1
  have hmm : ∀ k i, ¬ MM Mx G H k i → ¬ MM Mx G (H.set b (.row false e sz es)) k i := by
    rintro k i hm (hx | ⟨b1, l1, o1, hg, hH1, hbk, hmu⟩)
    · exact hm (.inl hx)
    · by_cases hbl : b1 = b
      · subst hbl
        rw [List.getElem?_set_self hlt] at hH1
        cases hH1
        refine hm (.inr ⟨b1, l1, _, hg, hH, hbk, ?_⟩)
        rcases hmu with hmu | hmu
        · cases hmu
        · exact .inr hmu
      · rw [List.getElem?_set_ne (fun e => hbl e.symm)] at hH1
        exact hm (.inr ⟨b1, l1, o1, hg, hH1, hbk, hmu⟩)
  have hcell : ∀ k i v, w.cell? ⟨k, i, none⟩ = some v → ¬ MM Mx G H k i → w.cell? ⟨k, i, none⟩ = some v ∧ ¬ MM Mx G (H.set b (.row false e sz es)) k i := fun k i v h1 h2 => ⟨h1, hmm k i h2⟩
  refine ⟨⟨fun b1 l1 h => by simpa using hs.dom b1 l1 h, ?_, hs.inj, hs.ext, hs.lt⟩, ⟨rfl, rfl, rfl, Nat.le_refl _, ⟨Nat.le_refl _, by simp⟩, fun _ _ _ => rfl, hcell, fun _ _ _ h => h, fun b1 l1 _ h1 h2 => .inl ⟨b1, l1, h1, h2⟩⟩⟩
  intro b1 o1 h
  by_cases hbl : b1 = b
  · subst hbl
    rw [List.getElem?_set_self hlt] at h
    cases h
    have h0 : ObjR w (MM Mx G H) H.length G (G b1) (.row false e sz es) := hs.obj b1 (.row wr e sz es) hH
    exact h0.mono hcell (by simp) (fun _ _ _ h => h) (fun _ _ _ _ => rfl)
  · rw [List.getElem?_set_ne (fun e => hbl e.symm)] at h
    exact (hs.obj b1 o1 h).mono hcell (by simp) (fun _ _ _ h => h) (fun _ _ _ _ => rfl)

end Go.Abs

/-
An abstract machine over values as trees: operations that leave the state alone are sound.
-/
namespace Go.Abs
open Go

mutual
theorem rv_ofConst {w : World} {M : Mut} {n : Nat} {G : Gh} : ∀ v : Value, RV w M n G v (ofConst v)
  | .bool b => by rw [ofConst]; exact .bool ..
  | .int k i => by rw [ofConst]; exact .int ..
  | .string s => by rw [ofConst]; exact .str ..
  | .pointer none => by rw [ofConst]; exact .nilptr ..
  | .pointer (some a) => by rw [ofConst]; exact .any ..; all_goals simp
  | .slice none 0 0 => by rw [ofConst]; exact .zslice ..
  | .slice none 0 (c + 1) => by rw [ofConst]; exact .any ..; all_goals simp
  | .slice none (l + 1) c => by rw [ofConst]; exact .any ..; all_goals simp
  | .slice (some a) l c => by rw [ofConst]; exact .any ..; all_goals simp
  | .map none => by rw [ofConst]; exact .nilmap ..
  | .map (some r) => by rw [ofConst]; exact .any ..; all_goals simp
  | .nilFunc => by rw [ofConst]; exact .nilfunc ..
  | .nilIface => by rw [ofConst]; exact .nilIface ..
  | .agg ⟨cs⟩ => by
    rw [ofConst]
    have h := rv_ofConsts (w := w) (M := M) (n := n) (G := G) cs
    exact .agg _ _ _ _ (by simpa using h.1) (fun i v x a b => h.2 i v x (by simpa using a) b)
  | .tuple ⟨cs⟩ => by
    rw [ofConst]
    have h := rv_ofConsts (w := w) (M := M) (n := n) (G := G) cs
    exact .tuple _ _ _ _ (by simpa using h.1) (fun i v x a b => h.2 i v x (by simpa using a) b)
  | .float .. => by rw [ofConst]; exact .any ..; all_goals simp
  | .complex .. => by rw [ofConst]; exact .any ..; all_goals simp
  | .chan .. => by rw [ofConst]; exact .any ..; all_goals simp
  | .func .. => by rw [ofConst]; exact .any ..; all_goals simp
  | .iface .. => by rw [ofConst]; exact .any ..; all_goals simp
theorem rv_ofConsts {w : World} {M : Mut} {n : Nat} {G : Gh} : ∀ l : List Value, l.length = (ofConsts l).length ∧ ∀ (i : Nat) v x, l[i]? = some v → (ofConsts l)[i]? = some x → RV w M n G v x
  | [] => ⟨rfl, fun i v x h => by simp at h⟩
  | c :: r => by
    have h := rv_ofConsts (w := w) (M := M) (n := n) (G := G) r
    rw [ofConsts]
    refine ⟨by simp [h.1], fun i v x a b => ?_⟩
    cases i with
    | zero => simp only [List.getElem?_cons_zero, Option.some.injEq] at a b; subst a; subst b; exact rv_ofConst c
    | succ i => simp only [List.getElem?_cons_succ] at a b; exact h.2 i v x a b
end

theorem ev {w : World} {M : Mut} {n : Nat} {G : Gh} {act : Act} {a : List AV} (ht : TV w M n G act.tmps a) (x : Operand) : RV w M n G (act.eval x) (aeval a x) := by
  cases x with
  | tmp t =>
    simp only [Act.eval, aeval]
    by_cases h : t < a.length
    · have h' : t < act.tmps.size := by rw [ht.1]; exact h
      rw [Array.getD_eq_getD_getElem?, List.getD_eq_getElem?_getD, Array.getElem?_eq_getElem h', List.getElem?_eq_getElem h]
      exact ht.2 t _ _ (Array.getElem?_eq_getElem h') (List.getElem?_eq_getElem h)
    · have hn : a[t]? = none := List.getElem?_eq_none (Nat.le_of_not_lt h)
      rw [List.getD_eq_getElem?_getD, hn]
      exact .any ..
  | const v => exact rv_ofConst v
  | global g => exact .any ..
  | func f => exact .func _ _ _ _ _ _ _ rfl rfl (fun i v x a => by simp at a) (fun i v x a => by simp at a)

theorem tv_put {w : World} {M : Mut} {n : Nat} {G : Gh} {act : Act} {a : List AV} (ht : TV w M n G act.tmps a) {dst : Option Tmp} {v : Value} {x : AV} (hv : RV w M n G v x) :
    TV w M n G (act.put dst v).tmps (aput a dst x) := by
  cases dst with
  | none => exact ht
  | some d =>
    refine ⟨by simp [Act.put, aput, ht.1], fun i u y h1 h2 => ?_⟩
    simp only [Act.put, aput] at h1 h2
    by_cases hd : d = i
    · subst hd
      have hlt : d < a.length := by
        have := (List.getElem?_eq_some_iff.1 h2).1
        simpa using this
      rw [List.getElem?_set_self hlt] at h2
      rw [Array.getElem?_setIfInBounds_self_of_lt (by rw [ht.1]; exact hlt)] at h1
      cases h1; cases h2
      exact hv
    · rw [List.getElem?_set_ne hd] at h2
      rw [Array.getElem?_setIfInBounds_ne hd] at h1
      exact ht.2 i u y h1 h2

theorem wp_value {P : Program} {o : Oper} {act : Act} {w w' : World} {v : Value} {next : Act → World → Prop} {Q : Exit → Act → World → Prop}
    (h : (execOp act.eval o).run P w = .ok (.value v) w') (hn : next (act.put o.dst v) w') : o.wp P act w next Q := by
  simp only [Oper.wp, h, Oper.upon]
  exact hn

section inv
variable {w : World} {M : Mut} {n : Nat} {G : Gh} {v : Value}
theorem RV.bool_inv {b : Bool} (h : RV w M n G v (.bool b)) : v = .bool b := by cases h; rfl
theorem RV.int_inv {k : IntKind} {i : Int} (h : RV w M n G v (.int k i)) : v = .int k i := by cases h; rfl
theorem RV.str_inv {s : ByteArray} (h : RV w M n G v (.str s)) : v = .string s := by cases h; rfl
theorem RV.tuple_inv {vs : List AV} (h : RV w M n G v (.tuple vs)) : ∃ cs, v = .tuple cs ∧ cs.size = vs.length ∧ ∀ (i : Nat) u x, cs[i]? = some u → vs[i]? = some x → RV w M n G u x := by
  cases h with | tuple _ _ cs _ hl h => exact ⟨cs, rfl, hl, h⟩
theorem RV.agg_inv {vs : List AV} (h : RV w M n G v (.agg vs)) : ∃ cs, v = .agg cs ∧ cs.size = vs.length ∧ ∀ (i : Nat) u x, cs[i]? = some u → vs[i]? = some x → RV w M n G u x := by
  cases h with | agg _ _ cs _ hl h => exact ⟨cs, rfl, hl, h⟩
theorem RV.func_inv {fn : Fn} {f c : List AV} (h : RV w M n G v (.func fn f c)) : ∃ f' c', v = .func fn f' c' ∧ TV w M n G f' f ∧ TV w M n G c' c := by
  cases h with | func _ _ _ f' c' _ _ hf hc h1 h2 => exact ⟨f', c', rfl, ⟨hf, h1⟩, ⟨hc, h2⟩⟩
theorem RV.ptr_inv {b o : Nat} (h : RV w M n G v (.ptr b o)) {k : Nat} (hG : G b = some (.blk k)) : v = .pointer (some ⟨k, o, none⟩) := by
  cases h with | ptr _ _ _ _ _ _ _ h => obtain ⟨k', he, hv⟩ := h _ hG; cases he; exact hv
theorem RV.rptr_inv {b i c : Nat} (h : RV w M n G v (.rptr b i c)) {g m cap sz : Nat} (hG : G b = some (.row (.slice (some ⟨g, 0, none⟩) m cap) sz true)) : v = .pointer (some ⟨g, i * sz + c, none⟩) := by
  cases h with | rptr _ _ _ _ _ _ _ _ h => obtain ⟨s, sz', k, he, hk, hv⟩ := h _ hG; cases he; simp only [Value.ownBlock, Option.some.injEq] at hk; subst hk; exact hv
theorem RV.row_inv {b : Nat} (h : RV w M n G v (.row b)) {s : Value} {sz : Nat} {ow : Bool} (hG : G b = some (.row s sz ow)) : v = s := by
  cases h with | row _ _ _ _ _ _ h => obtain ⟨sz', ow', he⟩ := h _ hG; cases he; rfl
theorem RV.srow_inv {b o m : Nat} (h : RV w M n G v (.srow b o m)) {A : Option Addr} {len cap sz : Nat} {ow : Bool} (hG : G b = some (.row (.slice A len cap) sz ow)) :
    ∃ A' cap', v = .slice A' m cap' ∧ o + m ≤ len ∧ m ≤ cap' ∧ (0 < m → A' = A.map (·.add (o * sz))) := by
  cases h with | srow _ _ _ _ _ _ _ _ h => obtain ⟨A1, len1, cap1, sz1, ow1, A', cap', he, hv, h1, h2, h3⟩ := h _ hG; cases he; exact ⟨A', cap', hv, h1, h2, h3⟩
theorem RV.iface_inv {t : TypeId} {x : AV} (h : RV w M n G v (.iface t x)) : ∃ u, v = .iface t u ∧ RV w M n G u x := by
  cases h with | iface _ _ _ u _ h => exact ⟨u, rfl, h⟩
theorem RV.zslice_inv (h : RV w M n G v .zslice) : ∃ A, v = .slice A 0 0 := by cases h; exact ⟨_, rfl⟩
theorem RV.ptr_lt {b o : Nat} (h : RV w M n G v (.ptr b o)) : b < n := by cases h; assumption
theorem RV.rptr_lt {b i c : Nat} (h : RV w M n G v (.rptr b i c)) : b < n := by cases h; assumption
theorem RV.row_lt {b : Nat} (h : RV w M n G v (.row b)) : b < n := by cases h; assumption
theorem RV.rptr_own {b i c : Nat} (h : RV w M n G v (.rptr b i c)) {s : Value} {sz : Nat} (hG : G b = some (.row s sz false)) : False := by
  cases h with | rptr _ _ _ _ _ _ _ _ h => obtain ⟨_, _, _, he, _⟩ := h _ hG; cases he
theorem RV.eptr_inv {cs : List AV} (h : RV w M n G v (.eptr cs)) : ∃ (k off : Nat) (f : Nat → Value), v = .pointer (some ⟨k, off, none⟩) ∧
    (∀ (j : Nat) (x : AV), cs[j]? = some x → w.cell? ⟨k, off + j, none⟩ = some (f j) ∧ ¬ M k (off + j) ∧ (f j).oneCell' = true) ∧
    (∀ (j : Nat) (x : AV), cs[j]? = some x → RV w M 0 G0 (f j) x) := by
  cases h with | eptr _ _ k off _ f h1 h2 => exact ⟨k, off, f, rfl, h1, h2⟩
/-- Its cells. -/
theorem RV.cells {a : AV} (h : RV w M n G v a) (ha : (acells a).all okCell = true) :
    v.cells.size = (acells a).length ∧ ∀ (i : Nat) u x, v.cells[i]? = some u → (acells a)[i]? = some x → u.oneCell' = true ∧ RV w M n G u x := by
  by_cases hagg : ∃ cs, a = .agg cs
  · obtain ⟨cs, rfl⟩ := hagg
    obtain ⟨vs, rfl, hl, hc⟩ := h.agg_inv
    refine ⟨hl, fun i u x a b => ?_⟩
    have hr := hc i u x a b
    refine ⟨hr.one ?_, hr⟩
    simp only [acells, List.all_eq_true] at ha
    exact ha x (List.mem_of_getElem? b)
  · have hac : acells a = [a] := by cases a <;> first | rfl | exact absurd ⟨_, rfl⟩ hagg
    rw [hac] at ha ⊢
    have hone : okCell a = true := by simpa using ha
    have h1 := h.one hone
    have hvc : v.cells = #[v] := by cases v <;> first | rfl | simp [Value.oneCell'] at h1
    rw [hvc]
    refine ⟨rfl, fun i u x a b => ?_⟩
    cases i with
    | zero => simp at a b; subst a; subst b; exact ⟨h1, h⟩
    | succ i => simp at b
end inv

/-- What a callee's entry is. -/
def Enters (P : Program) (f : FuncId) : Prop := ∀ args w, (callFunc f args).run P w = .ok (.enter f args) w

inductive ER (w : World) (M : Mut) (n : Nat) (G : Gh) : Ending → AOut → Prop where
  | ret (v : Value) (x : AV) (h : RV w M n G v x) : ER w M n G (.returned v) (.ret x)
  | pan (v : Value) (x : AV) (h : RV w M n G v x) : ER w M n G (.panicked [{ v, recovered := false }]) (.pan x)

/-- What a table says of a function is so. -/
def FOK (P : Program) (f : FuncId) (args : List AV) (H : Heap) (Q : AOut → Heap → Prop) : Prop :=
  Enters P f ∧ ∀ Mx G w cargs, Sim Mx G H w → TV w (MM Mx G H) H.length G cargs args →
    Calls P f cargs w fun e w' => ∃ out H' G', Step H.length Mx G H w G' H' w' ∧ Sim Mx G' H' w' ∧ ER w' (MM Mx G' H') H'.length G' e out ∧ Q out H'

def TOK (P : Program) (T : Tab) : Prop := ∀ f args H Q, T f args H Q → FOK P f args H Q

/-- An operation is sound: from every state of the model that fits. -/
def OpS (P : Program) (o : Oper) (a : List AV) (H : Heap) (K : AV → Heap → Prop) (E : AV → Heap → Prop) : Prop :=
  ∀ Mx G w (act : Act), Sim Mx G H w → TV w (MM Mx G H) H.length G act.tmps a → ∀ (next : Act → World → Prop) (Q : Exit → Act → World → Prop),
    (∀ x H' G' w' v, Step H.length Mx G H w G' H' w' → Sim Mx G' H' w' → RV w' (MM Mx G' H') H'.length G' v x → K x H' → next (act.put o.dst v) w') →
    (∀ x H' G' w' v, Step H.length Mx G H w G' H' w' → Sim Mx G' H' w' → RV w' (MM Mx G' H') H'.length G' v x → E x H' → Q (.panic [{ v, recovered := false }]) act w') →
    o.wp P act w next Q

section same
variable {P : Program} {o : Oper} {a : List AV} {H : Heap} {K E : AV → Heap → Prop}

/-- The state stays. -/
theorem opS_same {x : AV} (h : K x H) (hr : ∀ Mx G w (act : Act), Sim Mx G H w → TV w (MM Mx G H) H.length G act.tmps a →
    ∃ v, (execOp act.eval o).run P w = .ok (.value v) w ∧ RV w (MM Mx G H) H.length G v x) : OpS P o a H K E := by
  intro Mx G w act hs ht next Q hK _
  obtain ⟨v, he, hv⟩ := hr Mx G w act hs ht
  exact wp_value he (hK x H G w v Step.refl hs hv h)

theorem opS_move {x : Operand} (ho : o.op = .move x) (h : K (aeval a x) H) : OpS P o a H K E :=
  opS_same h fun Mx G w act hs ht => ⟨act.eval x, by simp [execOp, ho], ev ht x⟩
theorem opS_assign {x : Operand} (ho : o.op = .assign x) (h : K (aeval a x) H) : OpS P o a H K E :=
  opS_same h fun Mx G w act hs ht => ⟨act.eval x, by simp [execOp, ho], ev ht x⟩

theorem opS_pick {c x y : Operand} {b : Bool} (ho : o.op = .pick c x y) (hc : aeval a c = .bool b) (z : AV) (h : K z H)
    (hz : ∀ (w : World) (M : Mut) (n : Nat) (G : Gh) (u v : Value), RV w M n G u (aeval a x) → RV w M n G v (aeval a y) → RV w M n G (if b then u else v) z) : OpS P o a H K E :=
  opS_same h fun Mx G w act hs ht => by
    have h0 := ev ht c
    rw [hc] at h0
    refine ⟨if b then act.eval x else act.eval y, ?_, hz _ _ _ _ _ _ (ev ht x) (ev ht y)⟩
    simp [execOp, ho, h0.bool_inv, asBool]

theorem opS_extract {x : Operand} {i : Nat} {vs : List AV} {y : AV} (ho : o.op = .extract x i) (hx : aeval a x = .tuple vs) (hy : vs[i]? = some y) (h : K y H) : OpS P o a H K E :=
  opS_same h fun Mx G w act hs ht => by
    have h0 := ev ht x
    rw [hx] at h0
    obtain ⟨cs, hv, hl, hc⟩ := h0.tuple_inv
    have hi : i < cs.size := by rw [hl]; exact (List.getElem?_eq_some_iff.1 hy).1
    refine ⟨cs[i], ?_, hc i _ _ (Array.getElem?_eq_getElem hi) hy⟩
    simp [execOp, ho, hv, Instr.extract, Array.getElem?_eq_getElem hi]

theorem tyOf_inv {t : TypeId} {b : Bool} {n : Nat} (h : tyOf P t = some (b, n)) : ∃ d i, P.underlying t = some d ∧ P.info? t = some i ∧ i.size = n ∧
    ((∃ fs, d = .struct fs) ∨ (∃ m e, d = .array m e) → b = true) ∧ (¬ ((∃ fs, d = .struct fs) ∨ (∃ m e, d = .array m e)) → b = false) := by
  unfold tyOf at h
  split at h
  · rename_i d i hd hi
    injection h with h
    injection h with h1 h2
    refine ⟨d, i, hd, hi, h2, fun hh => ?_, fun hh => ?_⟩
    · rcases hh with ⟨fs, rfl⟩ | ⟨m, e, rfl⟩ <;> exact h1.symm
    · cases d <;> first | exact h1.symm | exact absurd (.inl ⟨_, rfl⟩) hh | exact absurd (.inr ⟨_, _, rfl⟩) hh
  · cases h

theorem run_isAgg {t : TypeId} {b : Bool} {n : Nat} (h : tyOf P t = some (b, n)) (w : World) : (isAgg t).run P w = .ok b w ∧ (sizeOf t).run P w = .ok n w := by
  obtain ⟨d, i, hd, hi, hn, h1, h2⟩ := tyOf_inv h
  constructor
  · unfold isAgg
    rw [Sem.run_bind, run_underlying hd]
    simp only [Result.andThen_ok]
    cases d <;> first | exact congrArg (Result.ok · w) (h1 (.inl ⟨_, rfl⟩)).symm | exact congrArg (Result.ok · w) (h1 (.inr ⟨_, _, rfl⟩)).symm | exact congrArg (Result.ok · w) (h2 (by rintro (⟨_, h⟩ | ⟨_, _, h⟩) <;> cases h)).symm
  · simp [sizeOf, typeInfo, hi, hn]

/-- The cells that lie from an address on. -/
theorem run_loadVar {t : TypeId} {w : World} {k o' : Nat} {M : Mut} {n : Nat} {G : Gh} {cs : List AV}
    (hc : ∀ (j : Nat) x, cs[j]? = some x → ∃ v, w.cell? ⟨k, o' + j, none⟩ = some v ∧ RV w M n G v x) :
    (∀ m, tyOf P t = some (true, m) → m ≤ cs.length → ∃ v, (loadVar t ⟨k, o', none⟩).run P w = .ok v w ∧ RV w M n G v (.agg (cs.take m))) ∧
    (∀ m c r, tyOf P t = some (false, m) → cs = c :: r → ∃ v, (loadVar t ⟨k, o', none⟩).run P w = .ok v w ∧ RV w M n G v c) := by
  constructor
  · intro m ht hm
    have hr := run_isAgg (P := P) ht w
    let f : Nat → Value := fun j => (w.cell? ⟨k, o' + j, none⟩).getD undef
    have hf : ∀ j, j < m → w.cell? ((⟨k, o', none⟩ : Addr).add j) = some (f j) := by
      intro j hj
      have hj' : j < cs.length := by omega
      obtain ⟨v, hv, _⟩ := hc j cs[j] (List.getElem?_eq_getElem hj')
      rw [Addr.add_lit]
      simp [f, hv]
    refine ⟨.agg ((List.range m).map f).toArray, ?_, ?_⟩
    · simp only [loadVar, Sem.run_bind, hr.1, Result.andThen_ok, if_true, hr.2, run_loadCells w _ m f hf]
      rfl
    · refine .agg _ _ _ _ (by simp; omega) (fun j v x h1 h2 => ?_)
      simp only [List.getElem?_toArray, List.getElem?_map] at h1
      by_cases hj : j < m
      · rw [List.getElem?_range hj] at h1
        simp only [Option.map_some, Option.some.injEq] at h1
        rw [List.getElem?_take_of_lt hj] at h2
        obtain ⟨u, hu, hru⟩ := hc j x h2
        subst h1
        simpa [f, hu] using hru
      · rw [List.getElem?_eq_none (by simp; omega)] at h1
        cases h1
  · intro m c r ht hcs
    have hr := run_isAgg (P := P) ht w
    obtain ⟨v, hv, hrv⟩ := hc 0 c (by simp [hcs])
    refine ⟨v, ?_, hrv⟩
    simp only [Nat.add_zero] at hv
    simp [loadVar, hr.1, hv]
end same
end Go.Abs

/-
An abstract machine over values as trees: loads, stores, new variables are sound.
-/
namespace Go.Abs
open Go
variable {P : Program} {o : Oper} {a : List AV} {H : Heap} {K E : AV → Heap → Prop}

theorem cellsAt_sound {Mx : Mut} {G : Gh} {w : World} (hs : Sim Mx G H w) {v : Value} {x : AV} (hx : RV w (MM Mx G H) H.length G v x) {cs : List AV} (hc : cellsAt H x = some cs) :
    ∃ k o', v = .pointer (some ⟨k, o', none⟩) ∧ ∀ (j : Nat) y, cs[j]? = some y → ∃ u, w.cell? ⟨k, o' + j, none⟩ = some u ∧ RV w (MM Mx G H) H.length G u y := by
  cases x with
  | ptr b off =>
    simp only [cellsAt] at hc
    cases hH : H[b]? with
    | none => rw [hH] at hc; cases hc
    | some ob =>
      rw [hH] at hc
      cases ob with
      | var cs0 =>
        simp only [Option.some.injEq] at hc
        subst hc
        obtain ⟨k, cv, t, hG, hk, hl, hcv⟩ := hs.obj b _ hH
        cases hx with
        | ptr _ _ _ _ _ hb h1 h =>
          obtain ⟨k', he, rfl⟩ := h _ hG
          cases he
          refine ⟨k, off, rfl, fun j y hy => ?_⟩
          rw [List.getElem?_drop] at hy
          have hlt : off + j < cv.size := by rw [hl]; exact (List.getElem?_eq_some_iff.1 hy).1
          refine ⟨cv[off + j], ?_, (hcv _ _ _ (Array.getElem?_eq_getElem hlt) hy).2⟩
          rw [cell_of hk, Array.getElem?_eq_getElem hlt]
      | dead => cases hc
      | row => cases hc
      | iter => cases hc
  | eptr cs0 =>
    simp only [cellsAt, Option.some.injEq] at hc
    subst hc
    cases hx with
    | eptr _ _ k off _ f hcc hr => exact ⟨k, off, rfl, fun j y hy => ⟨f j, (hcc j y hy).1, (hr j y hy).lift⟩⟩
  | rptr b i c =>
    simp only [cellsAt] at hc
    cases hH : H[b]? with
    | none => rw [hH] at hc; cases hc
    | some ob =>
      rw [hH] at hc
      cases ob with
      | row wr e sz es =>
        simp only [Option.map_eq_some_iff] at hc
        obtain ⟨el, hel, rfl⟩ := hc
        obtain ⟨h0, hle, hrow⟩ := hs.obj b _ hH
        cases hx with
        | rptr _ _ _ _ _ _ hb h1 h =>
          rcases hrow with ⟨rfl, A, hG⟩ | ⟨g, cap, cur, hG, hk, hc1, hc2, hc3, hc4, hc5⟩
          · simp at hel
          · obtain ⟨s, sz', k, he, hob, rfl⟩ := h _ hG
            cases he
            simp only [Value.ownBlock, Option.some.injEq] at hob
            subst hob
            refine ⟨g, i * sz + c, rfl, fun j y hy => ?_⟩
            rw [List.getElem?_drop] at hy
            have hi : i < es.length := (List.getElem?_eq_some_iff.1 hel).1
            have hj : c + j < sz := by rw [← hle i el hel]; exact (List.getElem?_eq_some_iff.1 hy).1
            have hlt : i * sz + (c + j) < cur.size := by
              rw [hc3]
              have : (i + 1) * sz ≤ cap * sz := Nat.mul_le_mul_right _ (by omega)
              rw [Nat.add_mul] at this
              omega
            refine ⟨cur[i * sz + (c + j)], ?_, (hc5 i el (c + j) y _ hel hy (Array.getElem?_eq_getElem hlt)).lift⟩
            rw [cell_of hk, Nat.add_assoc, Array.getElem?_eq_getElem hlt]
      | dead => cases hc
      | var => cases hc
      | iter => cases hc
  | _ => simp [cellsAt] at hc

/-- A load of a struct, or of a cell. -/
theorem opS_load {t : TypeId} {x : Operand} {cs : List AV} (ho : o.op = .load t x) (hc : cellsAt H (aeval a x) = some cs) :
    (∀ m, tyOf P t = some (true, m) → m ≤ cs.length → K (.agg (cs.take m)) H → OpS P o a H K E) ∧
    (∀ m c r, tyOf P t = some (false, m) → cs = c :: r → K c H → OpS P o a H K E) := by
  constructor
  · intro m ht hm h
    refine opS_same h fun Mx G w act hs htv => ?_
    obtain ⟨k, o', hv, hcell⟩ := cellsAt_sound hs (ev htv x) hc
    obtain ⟨v, hr, hrv⟩ := (run_loadVar (P := P) (t := t) hcell).1 m ht hm
    exact ⟨v, by simp [execOp, ho, hv, Instr.loadAt, Instr.sureAddr, hr], hrv⟩
  · intro m c r ht hcs h
    refine opS_same h fun Mx G w act hs htv => ?_
    obtain ⟨k, o', hv, hcell⟩ := cellsAt_sound hs (ev htv x) hc
    obtain ⟨v, hr, hrv⟩ := (run_loadVar (P := P) (t := t) hcell).2 m c r ht hcs
    exact ⟨v, by simp [execOp, ho, hv, Instr.loadAt, Instr.sureAddr, hr], hrv⟩

theorem live_sound {Mx : Mut} {G : Gh} {w : World} (hs : Sim Mx G H w) {v : Value} {x : AV} (hx : RV w (MM Mx G H) H.length G v x) (hl : live H x = true) :
    ∃ k o', v = .pointer (some ⟨k, o', none⟩) := by
  cases x with
  | ptr b off =>
    simp only [live] at hl
    split at hl
    · rename_i cs hH
      obtain ⟨k, cv, t, hG, hk, _⟩ := hs.obj b _ hH
      cases hx with | ptr _ _ _ _ _ hb h1 h => obtain ⟨k', he, rfl⟩ := h _ hG; exact ⟨_, _, rfl⟩
    · cases hl
  | rptr b i c =>
    simp only [live] at hl
    split at hl
    · rename_i wr e sz es hH
      obtain ⟨h0, hle, hrow⟩ := hs.obj b _ hH
      cases hx with
      | rptr _ _ _ _ _ _ hb h1 h =>
        rcases hrow with ⟨_, A, hG⟩ | ⟨g, cap, cur, hG, _⟩
        · obtain ⟨s, sz', k, he, _⟩ := h _ hG; cases he
        · obtain ⟨s, sz', k, he, hob, rfl⟩ := h _ hG; exact ⟨_, _, rfl⟩
    · cases hl
  | eptr cs => cases hx with | eptr _ _ k off _ f hcc hr => exact ⟨_, _, rfl⟩
  | _ => simp [live] at hl

theorem opS_nilCheck {x : Operand} (ho : o.op = .nilCheck x) (hl : live H (aeval a x) = true) (h : K (aeval a x) H) : OpS P o a H K E :=
  opS_same h fun Mx G w act hs ht => by
    obtain ⟨k, o', hv⟩ := live_sound hs (ev ht x) hl
    exact ⟨act.eval x, by simp [execOp, ho, hv], ev ht x⟩

theorem opS_nilCheckF {x : Operand} {g : FuncId} {f c : List AV} (ho : o.op = .nilCheck x) (hx : aeval a x = .func (.func g) f c) (h : K (.func (.func g) f c) H) : OpS P o a H K E :=
  opS_same h fun Mx G w act hs ht => by
    have h0 := ev ht x
    rw [hx] at h0
    refine ⟨act.eval x, ?_, h0⟩
    obtain ⟨f', c', hv, _⟩ := h0.func_inv
    simp [execOp, ho, hv]

theorem run_newVar (t : TypeId) (v : Value) (w : World) : (newVar t v).run P w = .ok ⟨w.heap.size, 0, none⟩ (w.alloc (.cells v.cells t)) := by
  simp [newVar, newRow]

/-- A new variable. -/
theorem var_push {Mx : Mut} {G : Gh} {w : World} (hs : Sim Mx G H w) {t : TypeId} {v : Value} {x : AV} (hv : RV w (MM Mx G H) H.length G v x) (hx : (acells x).all okCell = true) :
    ∃ G', Sim Mx G' (H ++ [.var (acells x)]) (w.alloc (.cells v.cells t)) ∧ Step H.length Mx G H w G' (H ++ [.var (acells x)]) (w.alloc (.cells v.cells t)) ∧
      RV (w.alloc (.cells v.cells t)) (MM Mx G' (H ++ [.var (acells x)])) (H.length + 1) G' (.pointer (some ⟨w.heap.size, 0, none⟩)) (.ptr H.length 0) := by
  have hbel : RowKit.Below w.heap.size w (w.alloc (.cells v.cells t)) := (RowKit.Below.refl _ _).alloc (Nat.le_refl _) _
  have hbase := hs.below hbel
  obtain ⟨hsz, hcl⟩ := hv.cells hx
  have hpush := hs.push (o := .var (acells x)) (l := .blk w.heap.size) hbel (fun k hk => by simp only [Loc.block, Option.some.injEq] at hk; omega) ?_
  · refine ⟨_, hpush.1, hpush.2, .ptr _ _ _ _ _ (by omega) rfl (fun l hl => ?_)⟩
    rw [gput_same] at hl
    cases hl
    exact ⟨_, rfl, rfl⟩
  · refine ⟨w.heap.size, v.cells, t, rfl, heap_alloc_new w _, hsz, fun i u y h1 h2 => ?_⟩
    obtain ⟨h3, h4⟩ := hcl i u y h1 h2
    refine ⟨h3, h4.mono (fun k i z c1 c2 => ⟨(hbel.cell (p := ⟨k, i, none⟩) (cell_lt c1)).trans c1, ?_⟩) (by omega) (fun b l hb hl => ?_)⟩
    · rintro (hx' | ⟨b, l, o1, hg, hH1, hbk, hmu⟩)
      · exact c2 (.inl hx')
      · by_cases hbl : b = H.length
        · subst hbl
          rw [gput_same] at hg
          cases hg
          simp only [Loc.block, Option.some.injEq] at hbk
          have := cell_lt c1
          omega
        · rw [gput_other G _ hbl] at hg
          have hlt := hs.dom b l hg
          rw [List.getElem?_append_left hlt] at hH1
          exact c2 (.inr ⟨b, l, o1, hg, hH1, hbk, hmu⟩)
    · rwa [gput_other G _ (by omega)] at hl

theorem opS_box {e : TypeId} {x : Operand} (ho : o.op = .box e x) (hx : (acells (aeval a x)).all okCell = true) (h : K (.ptr H.length 0) (H ++ [.var (acells (aeval a x))])) : OpS P o a H K E := by
  intro Mx G w act hs ht next Q hK _
  obtain ⟨G', hs', hst, hrv⟩ := var_push hs (t := e) (ev ht x) hx
  exact wp_value (v := .pointer (some ⟨w.heap.size, 0, none⟩)) (by simp [execOp, ho, Instr.box, run_newVar]) (hK _ _ G' _ _ hst hs' (by simpa using hrv) h)

theorem zeroA_inv {t : TypeId} {z : AV} (h : zeroA P t = some z) : ∃ i v, P.info? t = some i ∧ i.zero = some v ∧ z = ofConst v := by
  unfold zeroA at h
  split at h
  · rename_i i hi
    simp only [Option.map_eq_some_iff] at h
    obtain ⟨v, hv, rfl⟩ := h
    exact ⟨i, v, hi, hv, rfl⟩
  · cases h

theorem run_zeroValue {t : TypeId} {i : TypeInfo} {v : Value} (hi : P.info? t = some i) (hz : i.zero = some v) (w : World) : (zeroValue t).run P w = .ok v w := by
  simp [zeroValue, typeInfo, hi, hz]

theorem opS_alloc {t : TypeId} {z : AV} (ho : o.op = .alloc t) (hz : zeroA P t = some z) (hx : (acells z).all okCell = true) (h : K (.ptr H.length 0) (H ++ [.var (acells z)])) : OpS P o a H K E := by
  intro Mx G w act hs ht next Q hK _
  obtain ⟨i, v, hi, hv, rfl⟩ := zeroA_inv hz
  obtain ⟨G', hs', hst, hrv⟩ := var_push hs (t := t) (rv_ofConst v) hx
  exact wp_value (v := .pointer (some ⟨w.heap.size, 0, none⟩)) (by simp [execOp, ho, Instr.alloc, run_newVar, run_zeroValue hi hv]) (hK _ _ G' _ _ hst hs' (by simpa using hrv) h)

/-! ### Stores -/
theorem over0_length : ∀ (cs xs : List AV), (over0 cs xs).length = cs.length
  | cs, [] => by cases cs <;> rfl
  | [], _ :: _ => rfl
  | _ :: cs, x :: r => by simp only [over0, List.length_cons, over0_length cs r]
theorem over0_get : ∀ (cs xs : List AV) (i : Nat), xs.length ≤ cs.length → (over0 cs xs)[i]? = if i < xs.length then xs[i]? else cs[i]?
  | cs, [], i, _ => by cases cs <;> simp [over0]
  | [], _ :: _, _, h => by simp at h
  | c :: cs, x :: r, 0, _ => by simp [over0]
  | c :: cs, x :: r, i + 1, h => by
    simp only [over0, List.getElem?_cons_succ, List.length_cons, over0_get cs r i (by simpa using h)]
    by_cases hi : i < r.length
    · rw [if_pos hi, if_pos (by omega)]
    · rw [if_neg hi, if_neg (by omega)]
theorem overAt_length : ∀ (xs cs : List AV) (off : Nat), (overAt cs off xs).length = cs.length
  | xs, cs, 0 => by cases cs <;> exact over0_length _ _
  | xs, [], _ + 1 => rfl
  | xs, c :: cs, o + 1 => by simp only [overAt, List.length_cons, overAt_length xs cs o]
theorem overAt_get : ∀ (xs cs : List AV) (off i : Nat), off + xs.length ≤ cs.length →
    (overAt cs off xs)[i]? = if off ≤ i ∧ i < off + xs.length then xs[i - off]? else cs[i]?
  | xs, cs, 0, i, h => by
    have : overAt cs 0 xs = over0 cs xs := by cases cs <;> rfl
    rw [this, over0_get cs xs i (by omega)]
    by_cases hi : i < xs.length
    · rw [if_pos hi, if_pos (by omega)]; rfl
    · rw [if_neg hi, if_neg (by omega)]
  | xs, [], o + 1, i, h => by simp at h
  | xs, c :: cs, o + 1, 0, h => by simp [overAt]
  | xs, c :: cs, o + 1, i + 1, h => by
    simp only [overAt, List.getElem?_cons_succ, overAt_get xs cs o i (by simp only [List.length_cons] at h; omega)]
    by_cases hi : o ≤ i ∧ i < o + xs.length
    · rw [if_pos hi, if_pos (by omega), show i + 1 - (o + 1) = i - o by omega]
    · rw [if_neg hi, if_neg (by omega)]

theorem opS_store {t : TypeId} {x v : Operand} {b off n : Nat} {ag : Bool} {cs : List AV} (ho : o.op = .store t x v) (hx : aeval a x = .ptr b off) (ht : tyOf P t = some (ag, n)) (hH : H[b]? = some (.var cs))
    (h1 : (acells (aeval a v)).all okCell = true) (h2 : (acells (aeval a v)).length = n) (h3 : off + n ≤ cs.length)
    (h : K (.tuple []) (H.set b (.var (overAt cs off (acells (aeval a v)))))) : OpS P o a H K E := by
  intro Mx G w act hs htv next Q hK _
  obtain ⟨k, cv, ty, hG, hk, hl, hcv⟩ := hs.obj b _ hH
  have hxv := ev htv x
  rw [hx] at hxv
  have hev := hxv.ptr_inv hG
  · obtain ⟨hsz, hcl⟩ := (ev htv v).cells h1
    have hr := run_isAgg (P := P) ht w
    have hall : ∀ u ∈ (act.eval v).cells.toList, u.oneCell' = true := fun u hu => by
      obtain ⟨i, hi, rfl⟩ := List.mem_iff_getElem.1 hu
      simp only [Array.length_toList] at hi
      have hi2 : i < (acells (aeval a v)).length := by omega
      exact (hcl i _ _ (by simp [Array.getElem?_eq_getElem hi]) (List.getElem?_eq_getElem hi2)).1
    have hrun := run_storeCells_at P k off ty (act.eval v).cells.toList 0 cv w hk (by simp; omega) hall
    simp only [Nat.add_zero] at hrun
    let cv' : Array Value := (cv.toList.take off ++ (act.eval v).cells.toList ++ cv.toList.drop (off + (act.eval v).cells.toList.length)).toArray
    have hget : ∀ i, cv'[i]? = if off ≤ i ∧ i < off + n then (act.eval v).cells[i - off]? else cv[i]? := by
      intro i
      simp only [cv', List.getElem?_toArray, List.append_assoc]
      by_cases hi : i < off
      · rw [List.getElem?_append_left (by simp; omega), List.getElem?_take_of_lt hi, if_neg (by omega)]
        try simp
      · rw [List.getElem?_append_right (by simp; omega)]
        simp only [List.length_take, Array.length_toList]
        rw [Nat.min_eq_left (by omega)]
        by_cases hi2 : i < off + n
        · rw [List.getElem?_append_left (by simp; omega), if_pos (by omega)]
          try simp
        · rw [List.getElem?_append_right (by simp; omega), if_neg (by omega)]
          simp only [Array.length_toList, List.getElem?_drop, Array.getElem?_toList]
          congr 1
          omega
    have hsz' : cv'.size = cs.length := by
      simp only [cv', List.size_toArray, List.length_append, List.length_take, List.length_drop, Array.length_toList]
      omega
    have hobj : (∀ k1 i u, w.cell? ⟨k1, i, none⟩ = some u → ¬ MM Mx G H k1 i → (w.setRow k cv').cell? ⟨k1, i, none⟩ = some u ∧ ¬ MM Mx G (H.set b (.var (overAt cs off (acells (aeval a v))))) k1 i) →
        ObjR (w.setRow k cv') (MM Mx G (H.set b (.var (overAt cs off (acells (aeval a v)))))) H.length G (some (.blk k)) (.var (overAt cs off (acells (aeval a v)))) := by
      intro hcell
      refine ⟨k, cv', ty, rfl, setRow_heap w k cv cv' ty _ hk, by rw [hsz', overAt_length], fun i u y g1 g2 => ?_⟩
      rw [hget] at g1
      rw [overAt_get _ _ _ _ (by omega), h2] at g2
      by_cases hi : off ≤ i ∧ i < off + n
      · rw [if_pos hi] at g1 g2
        obtain ⟨a1, a2⟩ := hcl _ _ _ g1 g2
        exact ⟨a1, a2.mono hcell (Nat.le_refl _) (fun _ _ _ h => h)⟩
      · rw [if_neg hi] at g1 g2
        obtain ⟨a1, a2⟩ := hcv _ _ _ g1 g2
        exact ⟨a1, a2.mono hcell (Nat.le_refl _) (fun _ _ _ h => h)⟩
    have hput := hs.put (w' := w.setRow k cv') (o' := .var (overAt cs off (acells (aeval a v)))) hG hH rfl rfl rfl rfl (by simp) (fun k1 hk1 => setRow_other w k k1 _ hk1) (fun _ _ => trivial) (fun i u _ hm => absurd trivial hm) hobj
    have hgo := hK _ _ G _ undef hput.2 hput.1 (.tuple _ _ _ _ rfl (fun i v x h => by simp at h)) h
    have hne : (act.eval v).cells.size = n := by omega
    have hex : (execOp act.eval o).run P w = .ok .skip (w.setRow k cv') := by
      simp [execOp, ho, hev, Instr.storeAt, Instr.sureAddr, storeVar, hr.2, hne, hrun, cv']
    simp only [Oper.wp, hex, Oper.upon]
    exact hgo

end Go.Abs

/-
An abstract machine over values as trees: sums, tests, conversions, fields, indexes, lengths are sound.
-/
namespace Go.Abs
open Go
variable {P : Program} {o : Oper} {a : List AV} {H : Heap} {K E : AV → Heap → Prop}

theorem opS_quo {op : BinOp} {t u : TypeId} {x y : Operand} {k : IntKind} {p q : Int} {z : AV} (ho : o.op = .binOp op t x y u) (hx : aeval a x = .int k p) (hy : aeval a y = .int k q) (hq : q ≠ 0)
    (hop : (op = .quo ∧ z = .int k (k.wrap (p.tdiv q))) ∨ (op = .rem ∧ z = .int k (p.tmod q))) (h : K z H) : OpS P o a H K E :=
  opS_same h fun Mx G w act hs ht => by
    have h1 := ev ht x
    have h2 := ev ht y
    rw [hx] at h1
    rw [hy] at h2
    rcases hop with ⟨rfl, rfl⟩ | ⟨rfl, rfl⟩
    · exact ⟨_, by simp [execOp, ho, h1.int_inv, h2.int_inv, eqGuard, binOp, Op.intDiv, hq], .int ..⟩
    · exact ⟨_, by simp [execOp, ho, h1.int_inv, h2.int_inv, eqGuard, binOp, Op.intDiv, hq], .int ..⟩

theorem run_equal_bool {t : TypeId} (ht : P.underlying t = some .bool) (p q : Bool) (w : World) : (Op.equal t (.bool p) (.bool q)).run P w = .ok (p == q) w := by
  unfold Op.equal Op.maxDepth
  rw [show (10000 : Nat) = 9999 + 1 from rfl, Op.equalIn]
  simp [run_underlying ht]

theorem opS_eqBool {op : BinOp} {t u : TypeId} {x y : Operand} {p q : Bool} {z : AV} (ho : o.op = .binOp op t x y u) (hx : aeval a x = .bool p) (hy : aeval a y = .bool q) (ht : P.underlying t = some .bool)
    (hop : (op = .eql ∧ z = .bool (p == q)) ∨ (op = .neq ∧ z = .bool (!(p == q)))) (h : K z H) : OpS P o a H K E :=
  opS_same h fun Mx G w act hs htv => by
    have h1 := ev htv x
    have h2 := ev htv y
    rw [hx] at h1
    rw [hy] at h2
    rcases hop with ⟨rfl, rfl⟩ | ⟨rfl, rfl⟩
    · exact ⟨_, by simp [execOp, ho, h1.bool_inv, h2.bool_inv, eqGuard_at_bool, binOp, run_equal_bool ht], .bool ..⟩
    · exact ⟨_, by simp [execOp, ho, h1.bool_inv, h2.bool_inv, eqGuard_at_bool, binOp, run_equal_bool ht], .bool ..⟩

theorem opS_ifaceNil {op : BinOp} {t u ty : TypeId} {x y : Operand} {v' : AV} {ms : Array (String × TypeId)} {z : AV} (ho : o.op = .binOp op t x y u) (hx : aeval a x = .iface ty v') (hy : aeval a y = .nilIface) (ht : P.underlying t = some (.interface ms))
    (hop : (op = .eql ∧ z = .bool false) ∨ (op = .neq ∧ z = .bool true)) (h : K z H) : OpS P o a H K E :=
  opS_same h fun Mx G w act hs htv => by
    have h1 := ev htv x
    have h2 := ev htv y
    rw [hx] at h1
    rw [hy] at h2
    obtain ⟨u, e1, _⟩ := h1.iface_inv
    have e2 : act.eval y = .nilIface := by generalize act.eval y = q at h2; cases h2; rfl
    have hI : P.isIface t = true := by simp [Program.isIface, ht]
    have hg : ∀ op', (eqGuard op' t x y (.iface ty u) .nilIface).run P w = .ok () w := fun op' => by cases op' <;> rfl
    rcases hop with ⟨rfl, rfl⟩ | ⟨rfl, rfl⟩
    · exact ⟨.bool false, by simp only [execOp, ho, e1, e2, Sem.run_bind, hg, Result.andThen_ok, run_eql_iface_nil w t hI]; rfl, .bool ..⟩
    · exact ⟨.bool true, by simp only [execOp, ho, e1, e2, Sem.run_bind, hg, Result.andThen_ok, run_neq_iface_nil w t hI]; rfl, .bool ..⟩
theorem opS_nilNil {op : BinOp} {t u : TypeId} {x : Operand} {c : Value} {ms : Array (String × TypeId)} {z : AV} (ho : o.op = .binOp op t x (.const c) u) (hx : aeval a x = .nilIface) (hy : aeval a (.const c) = .nilIface) (ht : P.underlying t = some (.interface ms))
    (hop : (op = .eql ∧ z = .bool true) ∨ (op = .neq ∧ z = .bool false)) (h : K z H) : OpS P o a H K E :=
  opS_same h fun Mx G w act hs htv => by
    have h1 := ev htv x
    have h2 := ev htv (.const c)
    rw [hx] at h1
    rw [hy] at h2
    have e1 : act.eval x = .nilIface := by generalize act.eval x = q at h1; cases h1; rfl
    have e2 : act.eval (.const c) = .nilIface := by generalize act.eval (.const c) = q at h2; cases h2; rfl
    have hI : P.isIface t = true := by simp [Program.isIface, ht]
    rcases hop with ⟨rfl, rfl⟩ | ⟨rfl, rfl⟩
    · exact ⟨.bool true, by simp only [execOp, ho, e1, e2, Sem.run_bind, eqGuard_nil_constR, Sem.run_pure, Result.andThen_ok, run_eql_nil_nil_at w t hI], .bool ..⟩
    · exact ⟨.bool false, by simp only [execOp, ho, e1, e2, Sem.run_bind, eqGuard_nil_constR, Sem.run_pure, Result.andThen_ok, run_neq_nil_nil_at w t hI], .bool ..⟩
theorem opS_ptrNil {op : BinOp} {t u te : TypeId} {x y : Operand} {b : Bool} {z : AV} (ho : o.op = .binOp op t x y u) (hx : (aeval a x = .nilptr ∧ b = true) ∨ ∃ cs, aeval a x = .eptr cs ∧ b = false) (hy : aeval a y = .nilptr) (ht : P.underlying t = some (.pointer te))
    (hop : (op = .eql ∧ z = .bool b) ∨ (op = .neq ∧ z = .bool !b)) (h : K z H) : OpS P o a H K E :=
  opS_same h fun Mx G w act hs htv => by
    have h1 := ev htv x
    have h2 := ev htv y
    rw [hy] at h2
    have e2 : act.eval y = .pointer none := by generalize act.eval y = q at h2; cases h2; rfl
    obtain ⟨p, e1, hp⟩ : ∃ p, act.eval x = .pointer p ∧ p.isNone = b := by
      generalize act.eval x = q at h1
      rcases hx with ⟨hx, rfl⟩ | ⟨cs, hx, rfl⟩
      · rw [hx] at h1; cases h1; exact ⟨_, rfl, rfl⟩
      · rw [hx] at h1; cases h1; exact ⟨_, rfl, rfl⟩
    have hP : P.underlying t = some (.pointer (P.pointee t)) := by simp [Program.pointee, ht]
    have hg : ∀ op', (eqGuard op' t x y (.pointer p) (.pointer none)).run P w = .ok () w := fun op' => by cases op' <;> rfl
    subst hp
    rcases hop with ⟨rfl, rfl⟩ | ⟨rfl, rfl⟩
    · exact ⟨.bool p.isNone, by simp only [execOp, ho, e1, e2, Sem.run_bind, hg, Result.andThen_ok, run_eql_pointer_nil w t p hP]; rfl, .bool ..⟩
    · exact ⟨.bool (!p.isNone), by simp only [execOp, ho, e1, e2, Sem.run_bind, hg, Result.andThen_ok, run_neq_pointer_nil w t p hP]; rfl, .bool ..⟩
theorem opS_assert {xt dst : TypeId} {x : Operand} {v' : AV} {d : TypeDesc} (ho : o.op = .typeAssert x xt dst false) (hx : aeval a x = .iface dst v') (ht : P.underlying dst = some d) (hd : ∀ ms, d ≠ .interface ms) (h : K v' H) : OpS P o a H K E :=
  opS_same h fun Mx G w act hs htv => by
    have h1 := ev htv x
    rw [hx] at h1
    obtain ⟨u, e1, hr⟩ := h1.iface_inv
    refine ⟨u, ?_, hr⟩
    cases d <;> first | exact absurd rfl (hd _) | simp [execOp, ho, e1, Instr.typeAssert, run_underlying ht]

theorem run_eq2 {t : TypeId} (he : Eq2 P t) (k k' : IntKind) (a b c d : Int) (w : World) : (Op.equalIn 10000 t (.agg #[.int k a, .int k' b]) (.agg #[.int k c, .int k' d])).run P w = .ok ((a == c) && (b == d)) w := by
  obtain ⟨f, g, j, j', ht, hf, hg, of, og, tf, tg⟩ := he.fields
  have hfs : P.fieldsOf t = #[f, g] := by simp only [Program.fieldsOf, ht]
  rw [run_equalIn_agg w 9999 t _ _ (by rw [hfs]; exact ht) he.held, hfs]
  have p1 : ∀ (xs : Array Value) (x : Value) (u : TypeId) (i : Nat) (q : IntKind), P.underlying u = some (.int q) → xs[i]? = some x → (part u xs i).run P w = .ok x w := fun xs x u i q hu hx => by
    simp [part, isAgg, run_underlying hu, hx]
  have e1 := run_equalIn_int (P := P) w 9998 f.type k j a c tf
  have e2 := run_equalIn_int (P := P) w 9998 g.type k' j' b d tg
  simp only [Op.eqFields, if_pos hf, if_pos hg, of, og, Sem.run_bind]
  rw [p1 _ (.int k a) f.type 0 j tf rfl]
  simp only [Result.andThen_ok]
  rw [p1 _ (.int k c) f.type 0 j tf rfl]
  simp only [Result.andThen_ok, e1]
  cases h1 : (a == c)
  · simp
  · simp only [Bool.not_true, Bool.false_eq_true, if_false, Sem.run_bind]
    rw [p1 _ (.int k' b) g.type 1 j' tg rfl]
    simp only [Result.andThen_ok]
    rw [p1 _ (.int k' d) g.type 1 j' tg rfl]
    simp only [Result.andThen_ok, e2]
    cases h2 : (b == d) <;> simp

theorem opS_eq2 {op : BinOp} {t u : TypeId} {x y : Operand} {k k' : IntKind} {p q p' q' : Int} {z : AV} (ho : o.op = .binOp op t x y u) (hx : aeval a x = .agg [.int k p, .int k' q]) (hy : aeval a y = .agg [.int k p', .int k' q']) (he : Eq2 P t)
    (hop : (op = .eql ∧ z = .bool ((p == p') && (q == q'))) ∨ (op = .neq ∧ z = .bool (!((p == p') && (q == q'))))) (h : K z H) : OpS P o a H K E :=
  opS_same h fun Mx G w act hs htv => by
    have h1 := ev htv x
    have h2 := ev htv y
    rw [hx] at h1
    rw [hy] at h2
    have two : ∀ {v : Value} {p q : Int}, RV w (MM Mx G H) H.length G v (.agg [.int k p, .int k' q]) → v = .agg #[.int k p, .int k' q] := fun {v p q} hv => by
      obtain ⟨cs, rfl, hsz, hc⟩ := hv.agg_inv
      obtain ⟨l⟩ := cs
      match l, hsz with
      | [u0, u1], _ =>
        have := (hc 0 u0 _ rfl rfl).int_inv
        have := (hc 1 u1 _ rfl rfl).int_inv
        simp_all
    have hg := run_eqGuard_agg (P := P) w op t x y #[.int k p, .int k' q] #[.int k p', .int k' q'] he.guard
    rcases hop with ⟨rfl, rfl⟩ | ⟨rfl, rfl⟩
    · exact ⟨_, by simp only [execOp, ho, two h1, two h2, Sem.run_bind, hg, Result.andThen_ok, run_eql_struct, run_eq2 he]; rfl, .bool ..⟩
    · exact ⟨_, by simp only [execOp, ho, two h1, two h2, Sem.run_bind, hg, Result.andThen_ok, run_neq_struct, run_eq2 he]; rfl, .bool ..⟩

theorem opS_bin {op : BinOp} {t u : TypeId} {x y : Operand} {z : AV} (ho : o.op = .binOp op t x y u) (hz : abin op (aeval a x) (aeval a y) = some z) (h : K z H) : OpS P o a H K E :=
  opS_same h fun Mx G w act hs htv => by
    have h1 := ev htv x
    have h2 := ev htv y
    generalize aeval a x = x' at *
    generalize aeval a y = y' at *
    unfold abin at hz
    split at hz
    · rename_i k p k' q
      have e1 := h1.int_inv
      have e2 := h2.int_inv
      split at hz <;> first
        | (split at hz
           · rename_i hk
             first
               | (subst hk; injection hz with hz; subst hz
                  exact ⟨_, by simp [execOp, ho, e1, e2, eqGuard_at_int, binOp, Op.intArith, Op.intCmp, intBits_and, intBits_or, intBits_xor]; rfl, by constructor⟩)
               | (injection hz with hz; subst hz
                  have hn : ¬ q < 0 := by omega
                  exact ⟨_, by simp [execOp, ho, e1, e2, eqGuard_at_int, binOp, Op.shift, hn]; rfl, by constructor⟩)
           · cases hz)
        | cases hz
    · rename_i s s'
      have e1 := h1.str_inv
      have e2 := h2.str_inv
      split at hz <;> first
        | (injection hz with hz; subst hz
           exact ⟨_, by simp [execOp, ho, e1, e2, eqGuard_at_string, binOp, Op.stringOp]; rfl, by constructor⟩)
        | cases hz
    · cases hz

theorem opS_un {op : UnOp} {t : TypeId} {x : Operand} {z : AV} (ho : o.op = .unOp op t x) (h : K z H)
    (hz : (∃ b, aeval a x = .bool b ∧ op = .not ∧ z = .bool (!b)) ∨ (∃ k n, aeval a x = .int k n ∧ op = .neg ∧ z = .int k (k.wrap (0 - n))) ∨
      (∃ k n, aeval a x = .int k n ∧ op = .xor ∧ z = .int k (bits .xor k (if k.signed then -1 else k.max) n))) : OpS P o a H K E :=
  opS_same h fun Mx G w act hs htv => by
    have h1 := ev htv x
    rcases hz with ⟨b, hx, rfl, rfl⟩ | ⟨k, n, hx, rfl, rfl⟩ | ⟨k, n, hx, rfl, rfl⟩
    · rw [hx] at h1
      exact ⟨_, by simp [execOp, ho, h1.bool_inv, Op.unary], .bool ..⟩
    · rw [hx] at h1
      exact ⟨_, by simp only [execOp, ho, h1.int_inv, Op.unary, Op.intArith]; rfl, .int ..⟩
    · rw [hx] at h1
      exact ⟨_, by simp only [execOp, ho, h1.int_inv, Op.unary, intBits_xor]; rfl, .int ..⟩

theorem opS_convInt {src dst : TypeId} {x : Operand} {d : TypeDesc} {k k' : IntKind} {n : Int} (ho : o.op = .convert src dst x) (h1 : P.underlying src = some d) (h2 : P.underlying dst = some (.int k))
    (hx : aeval a x = .int k' n) (h : K (.int k (k.wrap n)) H) : OpS P o a H K E :=
  opS_same h fun Mx G w act hs htv => by
    have e1 := ev htv x
    rw [hx] at e1
    refine ⟨_, ?_, .int ..⟩
    simp [execOp, ho, e1.int_inv, convert, run_underlying h1, run_underlying h2, Conv.intToInt]

theorem opS_iface {t : TypeId} {x : Operand} {d : TypeDesc} (ho : o.op = .makeInterface t x) (h1 : P.underlying t = some d) (h2 : ∀ ms, d ≠ .interface ms) (h : K (.iface t (aeval a x)) H) : OpS P o a H K E :=
  opS_same h fun Mx G w act hs htv => by
    refine ⟨.iface t (act.eval x), ?_, .iface _ _ _ _ _ (ev htv x)⟩
    simp only [execOp, ho, Instr.makeInterface, Sem.run_bind, run_underlying h1, Result.andThen_ok]
    cases d <;> first | rfl | exact absurd rfl (h2 _)

theorem tv_map {w : World} {M : Mut} {n : Nat} {G : Gh} {act : Act} (ht : TV w M n G act.tmps a) (xs : Array Operand) : TV w M n G (xs.map act.eval) (xs.toList.map (aeval a)) := by
  refine ⟨by simp, fun i v x h1 h2 => ?_⟩
  simp only [Array.getElem?_map, List.getElem?_map, Array.getElem?_toList] at h1 h2
  cases hx : xs[i]? with
  | none => rw [hx] at h1; cases h1
  | some y =>
    rw [hx] at h1 h2
    simp only [Option.map_some, Option.some.injEq] at h1 h2
    subst h1; subst h2
    exact ev ht y

theorem opS_makeFunc {fn : Fn} {f c : Array Operand} (ho : o.op = .makeFunc fn f c) (h : K (.func fn (f.toList.map (aeval a)) (c.toList.map (aeval a))) H) : OpS P o a H K E :=
  opS_same h fun Mx G w act hs htv => by
    refine ⟨.func fn (f.map act.eval) (c.map act.eval), by simp [execOp, ho, Instr.makeFunc], ?_⟩
    have h1 := tv_map htv f
    have h2 := tv_map htv c
    exact .func _ _ _ _ _ _ _ h1.1 h2.1 h1.2 h2.2

/-! ### Fields and elements -/
theorem RV.agg_part {w : World} {M : Mut} {n : Nat} {G : Gh} {cs : Array Value} {asl : List AV} (hl : cs.size = asl.length) (h : ∀ (i : Nat) v x, cs[i]? = some v → asl[i]? = some x → RV w M n G v x) (off m : Nat) (hm : off + m ≤ asl.length) :
    RV w M n G (.agg (cs.extract off (off + m))) (.agg ((asl.drop off).take m)) := by
  refine .agg _ _ _ _ (by simp; omega) (fun i v x h1 h2 => ?_)
  simp only [Array.getElem?_extract] at h1
  by_cases hi : i < m
  · rw [List.getElem?_take_of_lt hi, List.getElem?_drop] at h2
    rw [if_pos (by omega)] at h1
    exact h _ _ _ h1 h2
  · rw [List.getElem?_eq_none (by simp; omega)] at h2
    cases h2

theorem run_part {t : TypeId} {w : World} {M : Mut} {n : Nat} {G : Gh} {cs : Array Value} {asl : List AV} (hl : cs.size = asl.length) (h : ∀ (i : Nat) v x, cs[i]? = some v → asl[i]? = some x → RV w M n G v x) (off : Nat) :
    (∀ m, tyOf P t = some (true, m) → off + m ≤ asl.length → ∃ v, (part t cs off).run P w = .ok v w ∧ RV w M n G v (.agg ((asl.drop off).take m))) ∧
    (∀ m c r, tyOf P t = some (false, m) → asl.drop off = c :: r → ∃ v, (part t cs off).run P w = .ok v w ∧ RV w M n G v c) := by
  constructor
  · intro m ht hm
    have hr := run_isAgg (P := P) ht w
    exact ⟨_, by simp only [part, Sem.run_bind, hr.1, Result.andThen_ok, if_true, hr.2]; rfl, RV.agg_part hl h off m hm⟩
  · intro m c r ht hd
    have hr := run_isAgg (P := P) ht w
    have hc : asl[off]? = some c := by
      have := congrArg (·[0]?) hd
      simpa [List.getElem?_drop] using this
    have hlt : off < cs.size := by rw [hl]; exact (List.getElem?_eq_some_iff.1 hc).1
    refine ⟨cs[off], ?_, h off _ _ (Array.getElem?_eq_getElem hlt) hc⟩
    simp [part, hr.1, Array.getElem?_eq_getElem hlt]

theorem opS_field {t : TypeId} {x : Operand} {f : Nat} {fs : Array Field} {fd : Field} {cs : List AV} (ho : o.op = .field t x f) (h1 : P.underlying t = some (.struct fs)) (hx : aeval a x = .agg cs) (h2 : fs[f]? = some fd) :
    (∀ m, tyOf P fd.type = some (true, m) → fd.offset + m ≤ cs.length → K (.agg ((cs.drop fd.offset).take m)) H → OpS P o a H K E) ∧
    (∀ m c r, tyOf P fd.type = some (false, m) → cs.drop fd.offset = c :: r → K c H → OpS P o a H K E) := by
  constructor
  · intro m ht hm h
    refine opS_same h fun Mx G w act hs htv => ?_
    have e1 := ev htv x
    rw [hx] at e1
    obtain ⟨vs, hv, hl, hc⟩ := e1.agg_inv
    obtain ⟨v, hr, hrv⟩ := (run_part (P := P) (t := fd.type) hl hc fd.offset).1 m ht hm
    exact ⟨v, by simp [execOp, ho, hv, Instr.field, run_underlying h1, h2, asAgg, hr], hrv⟩
  · intro m c r ht hd h
    refine opS_same h fun Mx G w act hs htv => ?_
    have e1 := ev htv x
    rw [hx] at e1
    obtain ⟨vs, hv, hl, hc⟩ := e1.agg_inv
    obtain ⟨v, hr, hrv⟩ := (run_part (P := P) (t := fd.type) hl hc fd.offset).2 m c r ht hd
    exact ⟨v, by simp [execOp, ho, hv, Instr.field, run_underlying h1, h2, asAgg, hr], hrv⟩

theorem run_fieldAt {s : TypeId} {f : Nat} {fs : Array Field} {fd : Field} {i : TypeInfo} (h1 : P.underlying s = some (.struct fs)) (h2 : fs[f]? = some fd) (h3 : P.info? fd.type = some i) (h4 : i.size ≠ 0) (k off : Nat) (w : World) :
    (Instr.fieldAt s (.pointer (some ⟨k, off, none⟩)) f).run P w = .ok (.pointer (some ⟨k, off + fd.offset, none⟩)) w := by
  simp [Instr.fieldAt, run_underlying h1, h2, Instr.sureAddr, fieldPlace, sizeOf, typeInfo, h3, h4, Addr.add_lit]

theorem opS_fieldAddr {s : TypeId} {x : Operand} {f : Nat} {fs : Array Field} {fd : Field} {i : TypeInfo} (ho : o.op = .fieldAddr s x f) (h1 : P.underlying s = some (.struct fs)) (h2 : fs[f]? = some fd) (h3 : P.info? fd.type = some i) (h4 : i.size ≠ 0) :
    (∀ b off, aeval a x = .ptr b off → live H (.ptr b off) = true → K (.ptr b (off + fd.offset)) H → OpS P o a H K E) ∧
    (∀ b j c, aeval a x = .rptr b j c → live H (.rptr b j c) = true → K (.rptr b j (c + fd.offset)) H → OpS P o a H K E) ∧
    (∀ cs, aeval a x = .eptr cs → K (.eptr (cs.drop fd.offset)) H → OpS P o a H K E) := by
  refine ⟨fun b off hx hl h => ?_, fun b j c hx hl h => ?_, fun cs hx h => ?_⟩
  · refine opS_same h fun Mx G w act hs htv => ?_
    have e1 := ev htv x
    rw [hx] at e1
    simp only [live] at hl
    split at hl
    · rename_i cs hH
      obtain ⟨k, cv, t, hG, _⟩ := hs.obj b _ hH
      have e2 := e1.ptr_inv hG
      refine ⟨.pointer (some ⟨k, off + fd.offset, none⟩), by simp [execOp, ho, e2, run_fieldAt h1 h2 h3 h4], ?_⟩
      exact .ptr _ _ _ _ _ e1.ptr_lt rfl (fun l hl => by rw [hG] at hl; cases hl; exact ⟨k, rfl, rfl⟩)
    · cases hl
  · refine opS_same h fun Mx G w act hs htv => ?_
    have e1 := ev htv x
    rw [hx] at e1
    have hl' := hl
    simp only [live] at hl
    split at hl
    · rename_i wr e sz es hH
      obtain ⟨h0, hle, hrow⟩ := hs.obj b _ hH
      obtain ⟨k, o', hlv⟩ := live_sound hs e1 hl'
      rcases hrow with ⟨_, A, hG⟩ | ⟨g, cap, cur, hG, _⟩
      · exact (e1.rptr_own hG).elim
      · have e2 := e1.rptr_inv hG
        refine ⟨.pointer (some ⟨g, j * sz + (c + fd.offset), none⟩), by simp [execOp, ho, e2, run_fieldAt h1 h2 h3 h4, Nat.add_assoc], ?_⟩
        exact .rptr _ _ _ _ _ _ e1.rptr_lt rfl (fun l hl => by rw [hG] at hl; cases hl; exact ⟨_, _, g, rfl, rfl, rfl⟩)
    · cases hl
  · refine opS_same h fun Mx G w act hs htv => ?_
    have e1 := ev htv x
    rw [hx] at e1
    obtain ⟨k, off, fc, hv, hcc, hr⟩ := e1.eptr_inv
    refine ⟨.pointer (some ⟨k, off + fd.offset, none⟩), by simp [execOp, ho, hv, run_fieldAt h1 h2 h3 h4], .eptr _ _ k (off + fd.offset) _ (fun j => fc (fd.offset + j)) (fun j y hy => ?_) (fun j y hy => ?_)⟩
    · rw [List.getElem?_drop] at hy; rw [Nat.add_assoc]; exact hcc _ _ hy
    · rw [List.getElem?_drop] at hy; exact hr _ _ hy

theorem opS_range {t : TypeId} {x : Operand} {s : ByteArray} (ho : o.op = .range t x) (h1 : P.underlying t = some .string) (hx : aeval a x = .str s) (h : K (.ptr H.length 0) (H ++ [.iter s 0])) : OpS P o a H K E := by
  intro Mx G w act hs ht next Q hK _
  have e1 := ev ht x
  rw [hx] at e1
  have hbel : RowKit.Below w.heap.size w (w.alloc (.stringIter s 0)) := (RowKit.Below.refl _ _).alloc (Nat.le_refl _) _
  have hpush := hs.push (o := .iter s 0) (l := .blk w.heap.size) hbel (fun k hk => by simp only [Loc.block, Option.some.injEq] at hk; omega) ⟨w.heap.size, rfl, heap_alloc_new w _⟩
  refine wp_value (v := .pointer (some ⟨w.heap.size, 0, none⟩)) (w' := w.alloc (.stringIter s 0)) (by simp [execOp, ho, e1.str_inv, Instr.range, run_underlying h1]) (hK _ _ _ _ _ hpush.2 hpush.1 (.ptr _ _ _ _ _ (by simp) rfl (fun l hl => ?_)) h)
  rw [gput_same] at hl
  cases hl
  exact ⟨_, rfl, rfl⟩

theorem getElem?_lt {w : World} {k : Nat} {x : Obj} (h : w.heap[k]? = some x) : k < w.heap.size := heap_lt h

theorem opS_next {it : Operand} {b pos : Nat} {s : ByteArray} (ho : o.op = .next it true) (hx : aeval a it = .ptr b 0) (hH : H[b]? = some (.iter s pos)) :
    (pos < s.size → K (.tuple [.bool true, .int .i64 pos, .int .i32 (Utf8.decode s pos).1]) (H.set b (.iter s (pos + (Utf8.decode s pos).2))) → OpS P o a H K E) ∧
    (¬ pos < s.size → K (.tuple [.bool false]) H → OpS P o a H K E) := by
  constructor
  · intro hp h Mx G w act hs ht next Q hK _
    obtain ⟨k, hG, hk⟩ := hs.obj b _ hH
    have e1 := ev ht it
    rw [hx] at e1
    have e2 := e1.ptr_inv hG
    let w' : World := { w with heap := w.heap.setIfInBounds k (.stringIter s (pos + (Utf8.decode s pos).2)) }
    have hcell : ∀ i v, w.cell? ⟨k, i, none⟩ = some v → False := fun i v hc => by simp [World.cell?, hk] at hc
    have hput := hs.put (w' := w') (o' := .iter s (pos + (Utf8.decode s pos).2)) hG hH rfl rfl rfl rfl (by simp [w']) (fun k1 hk1 => by simp only [w']; rw [Array.getElem?_setIfInBounds_ne (fun e => hk1 e.symm)]) (fun _ h => h) (fun i v hc _ => (hcell i v hc).elim)
      (fun _ => ⟨k, rfl, by simp only [w']; rw [Array.getElem?_setIfInBounds_self_of_lt (heap_lt hk)]⟩)
    refine wp_value (v := .tuple #[.bool true, goInt pos, .int .i32 (Utf8.decode s pos).1]) (w' := w') ?_ (hK _ _ G _ _ hput.2 hput.1 (.tuple _ _ _ _ rfl (fun i v x h1 h2 => ?_)) h)
    · simp [execOp, ho, e2, Instr.next, getObj, setObj, Sem.run, hk, hp, w']
    · match i with
      | 0 => simp at h1 h2; subst h1; subst h2; exact .bool ..
      | 1 => simp at h1 h2; subst h1; subst h2; exact .int ..
      | 2 => simp at h1 h2; subst h1; subst h2; exact .int ..
      | n + 3 => simp at h1
  · intro hp h
    refine opS_same h fun Mx G w act hs ht => ?_
    obtain ⟨k, hG, hk⟩ := hs.obj b _ hH
    have e1 := ev ht it
    rw [hx] at e1
    have e2 := e1.ptr_inv hG
    refine ⟨.tuple #[.bool false], ?_, .tuple _ _ _ _ rfl (fun i v x h1 h2 => ?_)⟩
    · simp [execOp, ho, e2, Instr.next, getObj, Sem.run, hk, hp]
    · match i with
      | 0 => simp at h1 h2; subst h1; subst h2; exact .bool ..
      | n + 1 => simp at h1

theorem run_eq_nil {t e : TypeId} (ht : P.underlying t = some (.slice e)) (a : Option Addr) (l c : Nat) (w : World) :
    (binOp .eql t (.slice a l c) (.slice none 0 0)).run P w = .ok (.bool a.isNone) w ∧ (binOp .neq t (.slice a l c) (.slice none 0 0)).run P w = .ok (.bool (!a.isNone)) w := by
  have h : ∀ d : Nat, (Op.equalIn (d + 1) t (.slice a l c) (.slice none 0 0)).run P w = .ok a.isNone w := fun d => by
    cases a <;> simp [Op.equalIn, run_underlying ht]
  constructor <;> simp [binOp, Op.equal, Op.maxDepth, h 9999]

theorem opS_nil {op : BinOp} {t u : TypeId} {x y : Operand} (ho : o.op = .binOp op t x y u) (hy : angY y = false) (h : anil P op t (aeval a x) H K) : OpS P o a H K E := by
  have hy' : y = .const (.slice none 0 0) := by
    unfold angY at hy
    split at hy
    · rfl
    · cases hy
  subst hy'
  intro Mx G w act hs htv next Q hK _
  have h1 := ev htv x
  unfold anil at h
  split at h
  · rename_i e ht
    have run : ∀ A n c, act.eval x = .slice A n c → (op = .eql → (execOp act.eval o).run P w = .ok (.value (.bool A.isNone)) w) ∧ (op = .neq → (execOp act.eval o).run P w = .ok (.value (.bool (!A.isNone))) w) := fun A n c hx => by
      obtain ⟨r1, r2⟩ := run_eq_nil (P := P) ht A n c w
      have hc : act.eval (.const (.slice none 0 0)) = .slice none 0 0 := rfl
      constructor <;> rintro rfl <;> simp [execOp, ho, hx, eqGuard_at_slice, hc, r1, r2]
    generalize aeval a x = x' at *
    have fin : ∀ b, (execOp act.eval o).run P w = .ok (.value (.bool b)) w → K (.bool b) H → o.wp P act w next Q := fun b hb hk => wp_value hb (hK (.bool b) H G w _ Step.refl hs (.bool ..) hk)
    split at h
    all_goals
      generalize hv : act.eval x = v at *
      cases h1
    all_goals first
      | exact fin _ ((run _ _ _ rfl).1 rfl) (h _)
      | exact fin _ ((run _ _ _ rfl).2 rfl) (h _)
      | exact fin _ ((run _ _ _ rfl).1 rfl) h
      | exact fin _ ((run _ _ _ rfl).2 rfl) h
      | exact h.elim
  · exact h.elim

end Go.Abs

