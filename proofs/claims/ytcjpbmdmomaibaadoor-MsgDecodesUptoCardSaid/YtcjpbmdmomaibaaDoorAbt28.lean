/-
An abstract machine over values as trees: callees that make a row of their own and leave the rows that they are given; methods of a reader over a row of the caller's.
-/
import Derived.Test.YtcjpbmdmomaibaaDoorAbt11
import Derived.Test.YtcjpbmdmomaibaaDoorAbt16
import Derived.Test.YtcjpbmdmomaibaaDoorAbt12
namespace Go.Abs
open Go
variable {P : Program}

theorem keepRow_ok {f : FuncId} {args : List AV} {H : Heap} {e sz : Nat} {es : List (List AV)} (hfl : ∀ el ∈ es, flats el = true)
    (h : FOK P f (frzAs H args).1 [] fun out Hs => out = .ret (.row 0) ∧ Hs = [.row true e sz es]) :
    FOK P f args H fun out H' => out = .ret (.row H.length) ∧ H' = H ++ [.row true e sz es] := by
  refine ⟨h.1, fun Mx G w cargs hs ht => ?_⟩
  obtain ⟨k1, k2, k3, k4, k5⟩ := frzAs_sound args H cargs.toList hs (by simpa using ht.1) (fun i v x e1 e2 => ht.2 i v x (by simpa using e1) e2)
  refine (h.2 (MM Mx G (frzAs H args).2) G0 w cargs ⟨fun b l hb => (by cases hb), fun b o hb => by simp at hb, fun b b' l l' k hb => (by cases hb), fun b l k i hb => (by cases hb), fun k i hm => ?_⟩ ⟨?_, fun i v x e1 e2 => ?_⟩).mono fun en w' ⟨out, Hs, Gs, h1, h2, h3, h4, h5⟩ => ?_
  · rcases hm with hm | ⟨b, l, o, g1, g2, g3, _⟩
    · exact k1.lt k i hm
    · exact k1.blk_lt g1 g3
  · rw [k4]; exact ht.1
  · refine (k5 i v x (by simpa using e1) e2).mono (fun k i v g1 g2 => ⟨g1, fun hm => ?_⟩) (Nat.le_refl _) (fun _ _ _ h => h)
    rcases hm with hm | ⟨b, l, o, hb, _⟩
    · exact g2 hm
    · cases hb
  · subst h4; subst h5
    have hold : ∀ k, k < w.heap.size → w'.heap[k]? = w.heap[k]? := fun k hk => h1.far k hk (fun b l hb => by cases hb)
    have hb : RowKit.Below w.heap.size w w' := ⟨h1.os, h1.tape, h1.output, h1.size, hold⟩
    obtain ⟨o1, o2, o3⟩ := h2.obj 0 _ rfl
    cases h3 with
    | ret v x hr =>
      cases hr with
      | row _ _ _ _ _ _ hv =>
        rcases o3 with ⟨rfl, a, hl⟩ | ⟨g, cap, cur, hl, hk, c1, c2, c3, c4, c5⟩
        · obtain ⟨sz', ow, he⟩ := hv _ hl
          cases he
          obtain ⟨m1, m2⟩ := hs.grown h1.os h1.tape h1.output h1.size hold
          obtain ⟨G', r1, r2, r3⟩ := row_push0 m1 (wr := true) (e := e) o1 a
          exact ⟨_, _, G', m2.trans (Nat.le_refl _) r2, r1, .ret _ _ (by rw [List.length_append]; exact r3), rfl, rfl⟩
        · obtain ⟨sz', ow, he⟩ := hv _ hl
          cases he
          have hge : w.heap.size ≤ g := by
            rcases h1.new 0 _ g hl (by simp [Loc.block, Value.ownBlock]) with ⟨b0, l0, hb0, _⟩ | hge
            · cases hb0
            · exact hge
          obtain ⟨G', r1, r2, r3⟩ := row_push hs hb (wr := true) (e := e) (sz := sz) (es := es) o1 o2 hge hk c1 c2 c3 (fun i el j x u e1 e2 e3 => by
            have hel := o2 i el e1
            have hi := (List.getElem?_eq_some_iff.1 e1).1
            have hj := (List.getElem?_eq_some_iff.1 e2).1
            have hlt : i * sz + j < es.length * sz := by
              have : (i + 1) * sz ≤ es.length * sz := Nat.mul_le_mul_right _ hi
              rw [Nat.succ_mul] at this
              omega
            exact ⟨c4 _ u e3 hlt, (c5 i el j x u e1 e2 e3).flat (flats_get (hfl el (List.mem_of_getElem? e1)) e2)⟩)
          exact ⟨_, _, G', r2, r1, .ret _ _ (by rw [List.length_append]; exact r3), rfl, rfl⟩

theorem RV.nil_any {w w' : World} {M M' : Mut} {n n' : Nat} {G G' : Gh} {v : Value} (h : RV w M n G v (.slice [])) : RV w' M' n' G' v (.slice []) := by
  cases h with
  | slice0 => exact .slice0 ..
  | slice n G k off cap sz es f hsz hc hr hcap => exact .slice _ _ k off cap sz [] f (fun i el h => by simp at h) (fun i el j x h => by simp at h) (fun i el j x h => by simp at h) hcap
/-- An answer without elements: all objects stay as they were. -/
theorem nil_ok {f : FuncId} {args : List AV} {H : Heap} (h : FOK P f (frzAs H args).1 [] fun out Hs => Hs = [] ∧ out = .ret (.slice [])) :
    FOK P f args H fun out H' => out = .ret (.slice []) ∧ H' = H := by
  obtain ⟨he, h⟩ := pure_run (Q0 := fun out => out = .ret (.slice [])) h
  refine ⟨he, fun Mx G w cargs hs ht => (h Mx G w cargs hs ht).mono fun e w' ⟨g1, g2, g3, g4, g5, out, g6, g7⟩ => ?_⟩
  obtain ⟨m1, m2⟩ := hs.grown g1 g2 g3 g4 g5
  subst g7
  refine ⟨_, _, G, m2, m1, ?_, rfl, rfl⟩
  cases g6 with
  | ret v x hr => exact .ret v _ hr.nil_any

/-- The state behind a function whose answer is frozen and of whose objects the first p stay. -/
def frzP (p : Nat) (Hs : Heap) : AOut → AOut × Heap
  | .ret (.tuple vs) => (.ret (.tuple (frzAs Hs vs).1), (agc p [] [] (frzAs Hs vs).2).2)
  | .ret v => (.ret (frzA Hs v).1, (agc p [] [] (frzA Hs v).2).2)
  | .pan v => (.pan (cond (flat v) v .any), (agc p [] [] Hs).2)
theorem frzP_ok {f : FuncId} {args : List AV} {H : Heap} {Q : AOut → Heap → Prop} (h : FOK P f args H fun out Hs => Q (frzP H.length Hs out).1 (frzP H.length Hs out).2) : FOK P f args H Q := by
  refine ⟨h.1, fun Mx G w cargs hs ht => (h.2 Mx G w cargs hs ht).mono fun e w' ⟨out, Hs, G', h1, h2, h3, hq⟩ => ?_⟩
  have key : ∀ H2 : Heap, Sim Mx G' H2 w' → Step Hs.length Mx G' Hs w' G' H2 w' → H2.length = Hs.length → ∀ (v : Value) (x : AV), RV w' (MM Mx G' H2) 0 G0 v x →
      ∃ Gn, Step H.length Mx G H w Gn (agc H.length [] [] H2).2 w' ∧ Sim Mx Gn (agc H.length [] [] H2).2 w' ∧ RV w' (MM Mx Gn (agc H.length [] [] H2).2) (agc H.length [] [] H2).2.length Gn v x := by
    intro H2 k1 k2 hl v x hv
    have hp : H.length ≤ H2.length := by rw [hl]; exact h1.len.2
    have htv : TV w' (MM Mx G' H2) H2.length G' #[] [] := ⟨rfl, fun i v x e1 _ => by simp at e1⟩
    obtain ⟨Gn, s1, _, st1, _⟩ := agc_sound (pin := H.length) [] hp k1 htv
    exact ⟨Gn, (h1.trans h1.len.2 k2).trans (Nat.le_refl _) st1, s1, (hv.mono (fun k i v g1 g2 => st1.still k i v g1 g2) (Nat.le_refl _) (fun _ _ _ h => h)).lift⟩
  cases h3 with
  | pan v x hr =>
    obtain ⟨Gn, m1, m2, m3⟩ := key Hs h2 Step.refl rfl v (cond (flat x) x .any) (by
      cases hf : flat x with
      | true => exact hr.flat hf
      | false => exact .any ..)
    exact ⟨_, _, Gn, m1, m2, .pan _ _ m3, hq⟩
  | ret v x hr =>
    have one : frzP H.length Hs (.ret x) = (.ret (frzA Hs x).1, (agc H.length [] [] (frzA Hs x).2).2) → ∃ out H3 G3, Step H.length Mx G H w G3 H3 w' ∧ Sim Mx G3 H3 w' ∧ ER w' (MM Mx G3 H3) H3.length G3 (.returned v) out ∧ Q out H3 := fun he => by
      rw [he] at hq
      obtain ⟨k1, k2, k3, k4⟩ := frzA_sound h2 hr
      obtain ⟨Gn, m1, m2, m3⟩ := key _ k1 k2 k3 v _ k4
      exact ⟨_, _, Gn, m1, m2, .ret _ _ m3, hq⟩
    cases x with
    | tuple xs =>
      obtain ⟨cs, rfl, hl, hc⟩ := hr.tuple_inv
      obtain ⟨k1, k2, k3, k4, k5⟩ := frzAs_sound xs Hs cs.toList h2 (by simpa using hl) (fun i v x e1 e2 => hc i v x (by simpa using e1) e2)
      obtain ⟨Gn, m1, m2, m3⟩ := key _ k1 k2 k3 (.tuple cs) (.tuple (frzAs Hs xs).1) (.tuple _ _ _ _ (by rw [k4]; exact hl) fun i v y e1 e2 => k5 i v y (by simpa using e1) e2)
      exact ⟨_, _, Gn, m1, m2, .ret _ _ m3, hq⟩
    | _ => exact one rfl

/-! ### A reader over a row -/
def rvB (q : Nat) (a : Int) : HO := .var [.row q, .int .i64 a]
def rowB (l : List Int) : HO := .row true 5 1 (bsA l)

/-- Contracts of a reader's methods; the row that it reads stays. -/
def readerK (g : List Int → RM AV) : Spec := fun args H Q => match args with
  | [.ptr p o] => match o, H[p]? with
    | 0, some (.var [.row q, .int .i64 a]) => match H[q]? with
      | some (.row wr e sz es) => cond (wr && (Nat.beq e 5 && Nat.beq sz 1)) (∃ l, es = bsA l ∧ OkL l ∧ rK (g l a) (fun v a' => Q (.ret v) (H.set p (rvB q a'))) (fun a' => Q (.pan eM) (H.set p (rvB q a')))) False
      | _ => False
    | _, _ => False
  | _ => False
theorem condK {wr : Bool} {e sz : Nat} {p : Prop} (h : cond (wr && (Nat.beq e 5 && Nat.beq sz 1)) p False) : wr = true ∧ e = 5 ∧ sz = 1 ∧ p := by
  cases wr with
  | false => exact h.elim
  | true =>
    cases h1 : Nat.beq e 5 with
    | false => rw [h1] at h; exact h.elim
    | true =>
      cases h2 : Nat.beq sz 1 with
      | false => rw [h1, h2] at h; exact h.elim
      | true => rw [h1, h2] at h; exact ⟨rfl, Nat.eq_of_beq_eq_true h1, Nat.eq_of_beq_eq_true h2, h⟩
theorem readerK_inv {g : List Int → RM AV} {args : List AV} {H : Heap} {Q : AOut → Heap → Prop} (h : readerK g args H Q) :
    ∃ p q l a, args = [.ptr p 0] ∧ H[p]? = some (rvB q a) ∧ H[q]? = some (rowB l) ∧ OkL l ∧ rK (g l a) (fun v a' => Q (.ret v) (H.set p (rvB q a'))) (fun a' => Q (.pan eM) (H.set p (rvB q a'))) := by
  unfold readerK at h
  split at h
  case h_2 => exact h.elim
  split at h
  case h_2 => exact h.elim
  rename_i hp
  split at h
  case h_2 => exact h.elim
  rename_i hq
  obtain ⟨rfl, rfl, rfl, l, rfl, hl, h⟩ := condK h
  exact ⟨_, _, l, _, rfl, hp, hq, hl, h⟩
theorem readerK_mk {g : List Int → RM AV} {p q : Nat} {l : List Int} {a : Int} {H : Heap} {Q : AOut → Heap → Prop} (hp : H[p]? = some (rvB q a)) (hq : H[q]? = some (rowB l)) (hl : OkL l)
    (h : rK (g l a) (fun v a' => Q (.ret v) (H.set p (rvB q a'))) (fun a' => Q (.pan eM) (H.set p (rvB q a')))) : readerK g [.ptr p 0] H Q := by
  unfold readerK
  simp only [hp, hq, rvB, rowB]
  exact ⟨l, rfl, hl, h⟩

theorem readerK_ok {f : FuncId} {l : List Int} {a : Int} {r : Option AV × Int} {ys : Nat → List AV} (hys : ∀ ρ b, ρ b = some 0 → renL ρ (ys b) = ys 0) (hc : ∀ v a', r = (some v, a') → closed v = true)
    (h : ∀ Q : AOut → Int → Prop, rK r (fun v a' => Q (.ret v) a') (fun a' => Q (.pan eM) a') → FOK P f (.ptr 0 0 :: ys 0) [rvB 1 a, rowB l] fun out Hs => ∃ a', Hs = [rvB 1 a', rowB l] ∧ Q out a')
    {p q : Nat} {H : Heap} {Q : AOut → Heap → Prop} (hp : H[p]? = some (rvB q a)) (hq : H[q]? = some (rowB l)) (hQ : rK r (fun v a' => Q (.ret v) (H.set p (rvB q a'))) (fun a' => Q (.pan eM) (H.set p (rvB q a')))) : FOK P f (.ptr p 0 :: ys p) H Q := by
  have hne : p ≠ q := fun e => by
    subst e
    rw [hp] at hq
    cases hq
  have hpl : p < H.length := (List.getElem?_eq_some_iff.1 hp).1
  have hql : q < H.length := (List.getElem?_eq_some_iff.1 hq).1
  have i0 : ([p, q] : List Nat).idxOf? p = some 0 := by simp [List.idxOf?, List.findIdx?_cons]
  have i1 : ([p, q] : List Nat).idxOf? q = some 1 := by simp [List.idxOf?, List.findIdx?_cons, hne]
  refine sub_call (ids := [p, q]) (by simp [hne]) (fun x hx => by simp at hx; rcases hx with rfl | rfl <;> assumption) ?_
  have e1 : renL (([p, q] : List Nat).idxOf? ·) (.ptr p 0 :: ys p) = .ptr 0 0 :: ys 0 := by
    simp only [renL, ren, i0, hys (([p, q] : List Nat).idxOf? ·) p i0]
  have e2 : subH H [p, q] = [rvB 1 a, rowB l] := by
    simp only [subH, List.map_cons, List.map_nil, List.getD_eq_getElem?_getD, hp, hq, Option.getD_some, rvB, rowB, renH, renL, ren, i1]
  rw [e1, e2]
  have hm : ∀ a', mergeH H [p, q] [rvB 1 a', rowB l] = H.set p (rvB q a') := fun a' => by
    unfold mergeH
    simp only [List.length_cons, List.length_nil, Nat.zero_add, Nat.reduceAdd, List.drop_succ_cons, List.drop_nil, List.map_nil, List.append_nil]
    refine List.ext_getElem? fun i => ?_
    rw [List.getElem?_map, List.getElem?_zipIdx]
    by_cases hip : i = p
    · subst hip
      rw [List.getElem?_set_self hpl, hp]
      simp only [Option.map_some, Nat.zero_add, i0, List.getD_cons_zero, rvB, renH, renL, ren]
      simp [backN]
    · rw [List.getElem?_set_ne (fun e => hip e.symm)]
      by_cases hiq : i = q
      · subst hiq
        rw [hq]
        simp [i1, rowB, renH]
      · cases hi : H[i]? with
        | none => rfl
        | some o =>
          have : ([p, q] : List Nat).idxOf? i = none := by rw [List.idxOf?_eq_none_iff]; simp [hip, hiq]
          simp [this]
  refine (h (fun out a' => (∃ v, r = (some v, a') ∧ out = .ret v) ∨ (r = (none, a') ∧ out = .pan eM)) ?_).imp fun out Hs ⟨a', e3, e4⟩ => ?_
  · obtain ⟨v, b⟩ := r
    cases v with
    | some v => exact .inl ⟨v, rfl, rfl⟩
    | none => exact .inr ⟨rfl, rfl⟩
  · subst e3
    rw [hm]
    rcases e4 with ⟨v, e5, rfl⟩ | ⟨e5, rfl⟩
    · rw [e5] at hQ
      simp only [outR, ren_closed _ v (hc v a' e5)]
      exact hQ
    · rw [e5] at hQ
      simp only [outR, ren_closed _ eM rfl]
      exact hQ

theorem readerK_good {f : FuncId} {g : List Int → RM AV} (hc : ∀ l a v a', g l a = (some v, a') → closed v = true)
    (h : ∀ l a (Q : AOut → Int → Prop), OkL l → rK (g l a) (fun v a' => Q (.ret v) a') (fun a' => Q (.pan eM) a') → FOK P f [.ptr 0 0] [rvB 1 a, rowB l] fun out Hs => ∃ a', (frzP 2 Hs out).2 = [rvB 1 a', rowB l] ∧ Q (frzP 2 Hs out).1 a') : SGood P f (readerK g) where
  ok := fun args H Q hg => by
    obtain ⟨p, q, l, a, rfl, hp, hq, hl, hQ⟩ := readerK_inv hg
    exact readerK_ok (ys := fun _ => []) (fun _ _ _ => rfl) (hc l a) (fun Q hQ => frzP_ok (h l a Q hl hQ)) hp hq hQ
  ang := fun args H K hg => by
    obtain ⟨p, q, l, a, rfl, hp, hq, hl, hQ⟩ := readerK_inv hg
    obtain ⟨o, a', h1, h2⟩ := rK_det (K := fun o a' => K o (H.set p (rvB q a'))) hQ
    exact ⟨o, H.set p (rvB q a'), readerK_mk hp hq hl (rK_mono (fun v b hb => ⟨hb.1, by rw [hb.2]⟩) (fun b hb => ⟨hb.1, by rw [hb.2]⟩) h1), h2⟩
  mono := fun args H K K' hk hg => by
    obtain ⟨p, q, l, a, rfl, hp, hq, hl, hQ⟩ := readerK_inv hg
    exact readerK_mk hp hq hl (rK_mono (fun v b hb => hk _ _ hb) (fun b hb => hk _ _ hb) hQ)

/-- Contracts of a reader's lists: each item is read by a method. -/
def readK (k : FuncId) (g : List Int → RM AV) : Spec := fun args H Q => match args with
  | [.ptr p o, .func (.func k') [.ptr p' o'] []] => cond (Nat.beq p' p && (Nat.beq o' 0 && Nat.beq k' k)) (readerK g [.ptr p o] H Q) False
  | _ => False
theorem readK_good {f k : FuncId} {g : List Int → RM AV} (hc : ∀ l a v a', g l a = (some v, a') → closed v = true)
    (h : ∀ l a (Q : AOut → Int → Prop), OkL l → rK (g l a) (fun v a' => Q (.ret v) a') (fun a' => Q (.pan eM) a') → FOK P f [.ptr 0 0, .func (.func k) [.ptr 0 0] []] [rvB 1 a, rowB l] fun out Hs => ∃ a', (frzP 2 Hs out).2 = [rvB 1 a', rowB l] ∧ Q (frzP 2 Hs out).1 a') : SGood P f (readK k g) where
  ok := fun args H Q hg => by
    unfold readK at hg
    split at hg
    case h_2 => exact hg.elim
    rename_i p o k' p' o'
    replace hg := cond3 hg
    obtain ⟨e1, e2, e3, hg⟩ := hg
    subst e1 e2 e3
    obtain ⟨p1, q, l, a, hpp, hp, hq, hl, hQ⟩ := readerK_inv hg
    obtain ⟨rfl, rfl⟩ : p1 = p' ∧ o = 0 := by
      simp only [List.cons.injEq, AV.ptr.injEq, and_true] at hpp
      exact ⟨hpp.1.symm, hpp.2⟩
    exact readerK_ok (ys := fun b => [.func (.func k') [.ptr b 0] []]) (fun ρ b hb => by simp only [renL, ren, hb]) (hc l a) (fun Q hQ => frzP_ok (h l a Q hl hQ)) hp hq hQ
  ang := fun args H K hg => by
    unfold readK at hg
    split at hg
    case h_2 => exact hg.elim
    rename_i p o k' p' o'
    replace hg := cond3 hg
    obtain ⟨e1, e2, e3, hg⟩ := hg
    subst e1 e2 e3
    obtain ⟨p1, q, l, a, hpp, hp, hq, hl, hQ⟩ := readerK_inv hg
    obtain ⟨rfl, rfl⟩ : p1 = p' ∧ o = 0 := by
      simp only [List.cons.injEq, AV.ptr.injEq, and_true] at hpp
      exact ⟨hpp.1.symm, hpp.2⟩
    obtain ⟨o, a', h1, h2⟩ := rK_det (K := fun o a' => K o (H.set p1 (rvB q a'))) hQ
    exact ⟨o, H.set p1 (rvB q a'), cond3i (readerK_mk hp hq hl (rK_mono (fun v b hb => ⟨hb.1, by rw [hb.2]⟩) (fun b hb => ⟨hb.1, by rw [hb.2]⟩) h1)), h2⟩
  mono := fun args H K K' hk hg => by
    unfold readK at hg
    split at hg
    case h_2 => exact hg.elim
    rename_i p o k' p' o'
    replace hg := cond3 hg
    obtain ⟨e1, e2, e3, hg⟩ := hg
    subst e1 e2 e3
    obtain ⟨p1, q, l, a, hpp, hp, hq, hl, hQ⟩ := readerK_inv hg
    obtain ⟨rfl, rfl⟩ : p1 = p' ∧ o = 0 := by
      simp only [List.cons.injEq, AV.ptr.injEq, and_true] at hpp
      exact ⟨hpp.1.symm, hpp.2⟩
    exact cond3i (readerK_mk hp hq hl (rK_mono (fun v b hb => hk _ _ hb) (fun b hb => hk _ _ hb) hQ))

end Go.Abs

/-
slices.Clone, octet.GetBytes, (*msg.reader).num, text over a row of the caller's, which stays, are what they come to.
-/
namespace Go.Abs
open Go Go.Proofs

def cloneO (H : Heap) : List Int → AOut
  | [] => .ret (.slice [])
  | _ :: _ => .ret (.row H.length)
def cloneH (H : Heap) : List Int → Heap
  | [] => H
  | x :: l => H ++ [.row true 5 1 (bsA (x :: l))]
def cloneK : Spec := fun args H Q => match args with
  | [x] => match elems H x with
    | some es => ∃ l : List Int, es = bsA l ∧ l.length ≤ 1099511627776 ∧ Q (cloneO H l) (cloneH H l)
    | none => False
  | _ => False
theorem frz_elems {H : Heap} {x : AV} {es : List (List AV)} (h : elems H x = some es) : (frzAs H [x]).1 = [.slice es] := by
  cases x <;> simp only [elems, reduceCtorEq] at h
  case zslice => cases h; rfl
  case slice => cases h; rfl
  case row b =>
    split at h
    · rename_i hb
      cases h
      simp only [frzAs, frzA, frz, hb]
    · cases h
  case srow b o n =>
    split at h
    · rename_i hb
      cases h
      simp only [frzAs, frzA, frz, hb]
    · cases h
theorem bsA_flat (l : List Int) : ∀ el ∈ bsA l, flats el = true := by
  intro el h
  obtain ⟨b, _, rfl⟩ := List.mem_map.1 h
  rfl

theorem cloneK_at {x : AV} {H : Heap} {Q : AOut → Heap → Prop} {es : List (List AV)} (l : List Int) (h : elems H x = some es) (he : es = bsA l) (hl : l.length ≤ 1099511627776) (hQ : Q (cloneO H l) (cloneH H l)) : cloneK [x] H Q := by
  unfold cloneK
  simp only [h]
  exact ⟨l, he, hl, hQ⟩
theorem cloneK_inv {args : List AV} {H : Heap} {Q : AOut → Heap → Prop} (h : cloneK args H Q) : ∃ x l, args = [x] ∧ elems H x = some (bsA l) ∧ l.length ≤ 1099511627776 ∧ Q (cloneO H l) (cloneH H l) := by
  unfold cloneK at h
  split at h
  · split at h
    · rename_i he
      obtain ⟨l, rfl, hl, hq⟩ := h
      exact ⟨_, l, rfl, he, hl, hq⟩
    · exact h.elim
  · exact h.elim

set_option maxRecDepth 100000 in
set_option maxHeartbeats 4000000 in
theorem f83k_cons (x : Int) (xs : List Int) (hl : (x :: xs).length ≤ 1099511627776) (T : Tab) (Q : AOut → Heap → Prop) (hQ : Q (.ret (.row 0)) [.row true 5 1 (bsA (x :: xs))]) (N : Nat) :
    abody Tryd.prog T 0 N Tryd.f83 [.slice (bsA (x :: xs))] [] Q := by
  conv => whnf
  refine ⟨fits_bs (l := x :: xs) (by omega), ?_⟩
  refine Eq.mp ?_ hQ
  kernel_rfl

set_option maxRecDepth 100000 in
theorem s83k {T : Tab} (hT : TGood Tryd.prog T) : SGood Tryd.prog 83 cloneK where
  ok := fun args H Q h => by
    obtain ⟨x, l, rfl, he, hl, hq⟩ := cloneK_inv h
    have hf := frz_elems he
    cases l with
    | nil =>
      refine (nil_ok ?_).imp fun o h ⟨e1, e2⟩ => by subst e1; subst e2; exact hq
      rw [hf]
      exact (s83 hT).ok [.slice (bsA [])] [] (fun out Hs => Hs = [] ∧ out = .ret (.slice [])) ⟨[], rfl, hl, rfl, rfl⟩
    | cons x xs =>
      refine (keepRow_ok (e := 5) (sz := 1) (es := bsA (x :: xs)) (bsA_flat _) ?_).imp fun o h ⟨e1, e2⟩ => by subst e1; subst e2; exact hq
      rw [hf]
      exact body_fresh (Q := fun out Hs => out = .ret (.row 0) ∧ Hs = [.row true 5 1 (bsA (x :: xs))]) hT mixedT Tryd.func83 (entersOf Tryd.func83 (by kernel_rfl) rfl) 0 (f83k_cons x xs hl T _ ⟨rfl, rfl⟩ 0)
  ang := fun args H K h => by
    obtain ⟨x, l, rfl, he, hl, hq⟩ := cloneK_inv h
    exact ⟨_, _, cloneK_at l he rfl hl ⟨rfl, rfl⟩, hq⟩
  mono := fun args H K K' hk h => by
    obtain ⟨x, l, rfl, he, hl, hq⟩ := cloneK_inv h
    exact cloneK_at l he rfl hl (hk _ _ hq)

/-! ### GetBytes -/
def gbO : Option (List Int × Int) → AOut
  | none => .ret (.tuple [.slice [], .int .i64 0, .int .i64 11])
  | some ([], x) => .ret (.tuple [.slice [], .int .i64 x, .int .i64 0])
  | some (_ :: _, x) => .ret (.tuple [.row 1, .int .i64 x, .int .i64 0])
def gbH (l : List Int) : Option (List Int × Int) → Heap
  | some (p :: ps, _) => [rowB l, rowB (p :: ps)]
  | _ => [rowB l]
def R130 : ShRel := fun args H o Hs => ∃ (l : List Int) (a m : Int), okB l ∧ l.length ≤ 1099511627776 ∧ args = [.row 0, .int .i64 a, .int .i64 m] ∧ H = [rowB l] ∧ o = gbO (decB l a m) ∧ Hs = gbH l (decB l a m)
/-- A nil slice may be read so. -/
def unzO : AOut → AOut
  | .ret (.tuple (.zslice :: r)) => .ret (.tuple (.slice [] :: r))
  | o => o
theorem unzO_ok {P : Program} {f : FuncId} {args : List AV} {H : Heap} {Q : AOut → Heap → Prop} (h : FOK P f args H fun o Hs => Q (unzO o) Hs) : FOK P f args H Q := by
  refine ⟨h.1, fun Mx G w cargs hs ht => (h.2 Mx G w cargs hs ht).mono fun e w' ⟨out, H', G', h1, h2, h3, h4⟩ => ⟨unzO out, H', G', h1, h2, ?_, h4⟩⟩
  unfold unzO
  split
  · rename_i r
    cases h3 with
    | ret v x hr =>
      obtain ⟨cs, rfl, hl, hc⟩ := hr.tuple_inv
      refine .ret _ _ (.tuple _ _ _ _ (by simpa using hl) fun i v y e1 e2 => ?_)
      cases i with
      | zero =>
        cases e2
        obtain ⟨A, rfl⟩ := (hc 0 v .zslice e1 rfl).zslice_inv
        exact .slice0 ..
      | succ i => exact hc (i + 1) v y e1 e2
  · exact h3

set_option maxRecDepth 100000 in
set_option maxHeartbeats 4000000 in
theorem f130k_ok (l : List Int) (a m : Int) (hb : okB l) (hl : l.length ≤ 1099511627776) (T : Tab) (Q : AOut → Heap → Prop) (hQ : Q (gbO (decB l a m)) (gbH l (decB l a m))) (N : Nat) :
    abody Tryd.prog (ext (ext T 83 cloneK) 101 (flatT g101)) 1 N Tryd.f130 [.row 0, .int .i64 a, .int .i64 m] [rowB l] (fun o Hs => Q (unzO o) Hs) := by
  have bad : decB l a m = none → Q (.ret (.tuple [.slice [], .int .i64 0, .int .i64 11])) [rowB l] := fun h => by rw [h] at hQ; exact hQ
  cases hd : decI l a with
  | none =>
    have e1 : dN l a = 0 := by simp [dN, hd]
    have e2 : dX l a = 0 := by simp [dX, hd]
    have e3 : dE l a = 11 := by simp [dE, hd]
    have := bad (by simp [decB, hd])
    conv => whnf
    refine ⟨l, rfl, hb, hl, ?_⟩
    rw [e1, e2, e3]
    refine Eq.mp ?_ this
    kernel_rfl
  | some y =>
    obtain ⟨n, x⟩ := y
    have e1 : dN l a = n := by simp [dN, hd]
    have e2 : dX l a = x := by simp [dX, hd]
    have e3 : dE l a = 0 := by simp [dE, hd]
    obtain ⟨r0, r1, r2, r3, r4⟩ := decI_range hb hd
    dsimp only at r0 r1 r2 r3 r4
    conv => whnf
    refine ⟨l, rfl, hb, hl, ?_⟩
    rw [e1, e2, e3]
    conv => whnf
    split
    · rename_i h1; have h1 : n > m := of_decide_eq_true h1
      refine Eq.mp ?_ (bad (by simp [decB, hd, h1]))
      kernel_rfl
    rename_i h1; have h1 : ¬ n > m := of_decide_eq_false h1
    conv => whnf
    have hw : IntKind.i64.wrap (((bsA l).length : Int) - x) = (l.length : Int) - x := by rw [bsA_length, IntWalk.i64_in _ (by omega)]
    rw [hw]
    split
    · rename_i h2; have h2 : n > (l.length : Int) - x := of_decide_eq_true h2
      refine Eq.mp ?_ (bad (by simp [decB, hd, h2]))
      kernel_rfl
    rename_i h2; have h2 : ¬ n > (l.length : Int) - x := of_decide_eq_false h2
    have hok : decB l a m = some ((l.drop x.toNat).take n.toNat, x + n) := by simp only [decB, hd]; rw [if_neg (by omega)]
    have hx : IntKind.i64.wrap (x + n) = x + n := by rw [IntWalk.i64_in _ (by omega)]
    have hcut : ((bsA l).drop x.toNat).take ((x + n).toNat - x.toNat) = bsA ((l.drop x.toNat).take n.toNat) := by
      rw [bsA, bsA, ← List.map_drop, ← List.map_take]
      congr 2
      omega
    rw [hok] at hQ
    conv => whnf
    rw [hx]
    refine ⟨by kernel_rfl, ⟨r3, by omega, by rw [bsA_length]; omega⟩, ?_⟩
    conv => whnf
    refine ⟨(l.drop x.toNat).take n.toNat, hcut, by simp; omega, ?_⟩
    generalize (l.drop x.toNat).take n.toNat = p at hQ ⊢
    rw [← hx] at hQ
    cases p
    all_goals
      conv => whnf
      refine Eq.mp ?_ hQ
      kernel_rfl

set_option maxRecDepth 100000 in
theorem s130k {T : Tab} (hT : TGood Tryd.prog T) : SGood Tryd.prog 130 (shapeT R130) := shapeT_good fun args H o Hs ⟨l, a, m, hb, hl, e1, e2, e3, e4⟩ => by
  subst e1 e2 e3 e4
  have t0 := ext_good hT (s83k hT)
  have t1 := ext_good t0 (s101 t0)
  exact unzO_ok (abody_sound t1.ok t1.ang t1.mono mixedT Tryd.func130 (entersOf Tryd.func130 (by kernel_rfl) rfl) (f130k_ok l a m hb hl T (fun x y => x = _ ∧ y = _) ⟨rfl, rfl⟩ 0))

/-! ### num, text -/
set_option maxRecDepth 100000 in
set_option maxHeartbeats 4000000 in
theorem f59k_ok (l : List Int) (a : Int) (hl : OkL l) (T : Tab) (Q : AOut → Int → Prop) (hQ : rK (g59 l a) (fun v a' => Q (.ret v) a') (fun a' => Q (.pan eM) a')) (N : Nat) :
    abody Tryd.prog (ext (ext T 101 (flatT g101)) 102 (flatT g102')) 2 N Tryd.f59 [.ptr 0 0] [rvB 1 a, rowB l] (fun out Hs => ∃ a', (frzP 2 Hs out).2 = [rvB 1 a', rowB l] ∧ Q (frzP 2 Hs out).1 a') := by
  unfold g59 RM.map rNum at hQ
  cases h : decI l a with
  | none =>
    have e1 : dN l a = 0 := by simp [dN, h]
    have e2 : dX l a = 0 := by simp [dX, h]
    have e3 : dE l a = 11 := by simp [dE, h]
    rw [h] at hQ
    conv => whnf
    refine ⟨[], ?_⟩
    conv => whnf
    refine ⟨l, rfl, hl.b, hl.len, ?_⟩
    rw [e1, e2, e3]
    conv => whnf
    refine ⟨rfl, ?_⟩
    conv => whnf
    refine ⟨a, by kernel_rfl, Eq.mp ?_ hQ⟩
    kernel_rfl
  | some y =>
    obtain ⟨n, x⟩ := y
    have e1 : dN l a = n := by simp [dN, h]
    have e2 : dX l a = x := by simp [dX, h]
    have e3 : dE l a = 0 := by simp [dE, h]
    rw [h] at hQ
    conv => whnf
    refine ⟨[], ?_⟩
    conv => whnf
    refine ⟨l, rfl, hl.b, hl.len, ?_⟩
    rw [e1, e2, e3]
    conv => whnf
    refine ⟨rfl, ?_⟩
    conv => whnf
    refine ⟨x, by kernel_rfl, Eq.mp ?_ hQ⟩
    kernel_rfl

set_option maxRecDepth 100000 in
theorem s59k {T : Tab} (hT : TGood Tryd.prog T) : SGood Tryd.prog 59 (readerK g59) := readerK_good g59_closed fun l a Q hl hQ => by
  have h1 := ext_good hT (s101 hT)
  have h2 := ext_good h1 (s102 h1)
  exact abody_sound h2.ok h2.ang h2.mono mixedT Tryd.func59 (entersOf Tryd.func59 (by kernel_rfl) rfl) (f59k_ok l a hl T Q hQ 0)

set_option maxRecDepth 100000 in
set_option maxHeartbeats 4000000 in
theorem f105k_ok (l : List Int) (a : Int) (hl : OkL l) (T : Tab) (Q : AOut → Int → Prop) (hQ : rK (g105 l a) (fun v a' => Q (.ret v) a') (fun a' => Q (.pan eM) a')) (N : Nat) :
    abody Tryd.prog (ext (ext T 130 (shapeT R130)) 102 (flatT g102')) 2 N Tryd.f105 [.ptr 0 0] [rvB 1 a, rowB l] (fun out Hs => ∃ a', (frzP 2 Hs out).2 = [rvB 1 a', rowB l] ∧ Q (frzP 2 Hs out).1 a') := by
  unfold g105 RM.map rText at hQ
  rcases h : decB l a 65536 with _ | ⟨_ | ⟨p, ps⟩, x⟩
  · rw [h] at hQ
    conv => whnf
    refine ⟨[], ?_⟩
    conv => whnf
    refine ⟨[1], gbO none, gbH l none, .ret (.tuple [.slice [], .int .i64 0, .int .i64 11]), [rvB 1 a, rowB l], ⟨by kernel_rfl, by kernel_rfl, ⟨l, a, 65536, hl.b, hl.len, by kernel_rfl, by kernel_rfl, by rw [h], by rw [h]⟩, by kernel_rfl, by kernel_rfl⟩, ?_⟩
    conv => whnf
    refine ⟨rfl, ?_⟩
    conv => whnf
    refine ⟨a, by kernel_rfl, Eq.mp ?_ hQ⟩
    kernel_rfl
  · rw [h] at hQ
    conv => whnf
    refine ⟨[], ?_⟩
    conv => whnf
    refine ⟨[1], gbO (some ([], x)), gbH l (some ([], x)), .ret (.tuple [.slice [], .int .i64 x, .int .i64 0]), [rvB 1 a, rowB l], ⟨by kernel_rfl, by kernel_rfl, ⟨l, a, 65536, hl.b, hl.len, by kernel_rfl, by kernel_rfl, by rw [h], by rw [h]⟩, by kernel_rfl, by kernel_rfl⟩, ?_⟩
    conv => whnf
    refine ⟨rfl, ?_⟩
    conv => whnf
    refine ⟨x, by kernel_rfl, Eq.mp ?_ hQ⟩
    kernel_rfl
  · rw [h] at hQ
    conv => whnf
    refine ⟨[8], ?_⟩
    conv => whnf
    refine ⟨[1], gbO (some (p :: ps, x)), gbH l (some (p :: ps, x)), .ret (.tuple [.row 2, .int .i64 x, .int .i64 0]), [rvB 1 a, rowB l, rowB (p :: ps)], ⟨by kernel_rfl, by kernel_rfl, ⟨l, a, 65536, hl.b, hl.len, by kernel_rfl, by kernel_rfl, by rw [h], by rw [h]⟩, by kernel_rfl, by kernel_rfl⟩, ?_⟩
    conv => whnf
    repeat (refine ⟨by (conv => whnf); exact ⟨rfl, rfl⟩, ?_⟩; conv => whnf)
    refine ⟨x, by kernel_rfl, Eq.mp ?_ hQ⟩
    kernel_rfl

set_option maxRecDepth 100000 in
theorem s105k {T : Tab} (hT : TGood Tryd.prog T) : SGood Tryd.prog 105 (readerK g105) := readerK_good g105_closed fun l a Q hl hQ => by
  have h1 := ext_good hT (s130k hT)
  have h2 := ext_good h1 (s102 h1)
  exact abody_sound h2.ok h2.ang h2.mono mixedT Tryd.func105 (entersOf Tryd.func105 (by kernel_rfl) rfl) (f105k_ok l a hl T Q hQ 0)

end Go.Abs

/-
(*msg.reader)'s methods over a row of the caller's, which stays, are what they come to.
-/
namespace Go.Abs
open Go Go.Proofs

def rowV2 (l : List (List AV)) : AV := match l with | [] => .zslice | _ => .row 2

set_option maxRecDepth 100000 in
set_option maxHeartbeats 4000000 in
theorem f103k_ok (l : List Int) (a0 : Int) (hl : OkL l) (T : Tab) (Q : AOut → Int → Prop) (hQ : rK (g103 l a0) (fun v a' => Q (.ret v) a') (fun a' => Q (.pan eM) a')) (N : Nat) :
    abody Tryd.prog (ext T 59 (readerK g59)) 2 N Tryd.f103 [.ptr 0 0] [rvB 1 a0, rowB l] (fun out Hs => ∃ a', (frzP 2 Hs out).2 = [rvB 1 a', rowB l] ∧ Q (frzP 2 Hs out).1 a') := by
  conv => whnf
  refine ⟨l, rfl, hl, ?_⟩
  rcases h1 : rNum l a0 with ⟨_ | v1, a1⟩
  · rw [show g59 l a0 = (none, a1) by simp only [g59, RM.map, h1]]
    rw [show g103 l a0 = (none, a1) by simp only [g103, rBal, RM.map, RM.bind, h1]] at hQ
    conv => whnf
    refine ⟨a1, by kernel_rfl, Eq.mp ?_ hQ⟩
    kernel_rfl
  rw [show g59 l a0 = (some (.int .i64 v1), a1) by simp only [g59, RM.map, h1]]
  conv => whnf
  refine ⟨l, rfl, hl, ?_⟩
  rcases h2 : rNum l a1 with ⟨_ | v2, a2⟩
  · rw [show g59 l a1 = (none, a2) by simp only [g59, RM.map, h2]]
    rw [show g103 l a0 = (none, a2) by simp only [g103, rBal, RM.map, RM.bind, h1, h2]] at hQ
    conv => whnf
    refine ⟨a2, by kernel_rfl, Eq.mp ?_ hQ⟩
    kernel_rfl
  rw [show g59 l a1 = (some (.int .i64 v2), a2) by simp only [g59, RM.map, h2]]
  conv => whnf
  rw [show g103 l a0 = (some ((fun x => .agg (balC x)) (⟨v1, v2⟩ : BalV)), a2) by simp only [g103, rBal, RM.map, RM.bind, RM.pure, h1, h2]] at hQ
  refine ⟨a2, by kernel_rfl, Eq.mp ?_ hQ⟩
  kernel_rfl


set_option maxRecDepth 100000 in
theorem s103k {T : Tab} (hT : TGood Tryd.prog T) : SGood Tryd.prog 103 (readerK g103) := readerK_good g103_closed fun l a Q hl hQ => by
  have t0 := ext_good hT (s59k hT)
  exact abody_sound t0.ok t0.ang t0.mono mixedT Tryd.func103 (entersOf Tryd.func103 (by kernel_rfl) rfl) (f103k_ok l a hl T Q hQ 0)



set_option maxRecDepth 100000 in
set_option maxHeartbeats 4000000 in
theorem f104k_ok (l : List Int) (a0 : Int) (hl : OkL l) (T : Tab) (Q : AOut → Int → Prop) (hQ : rK (g104 l a0) (fun v a' => Q (.ret v) a') (fun a' => Q (.pan eM) a')) (N : Nat) :
    abody Tryd.prog (ext (ext T 59 (readerK g59)) 105 (readerK g105)) 2 N Tryd.f104 [.ptr 0 0] [rvB 1 a0, rowB l] (fun out Hs => ∃ a', (frzP 2 Hs out).2 = [rvB 1 a', rowB l] ∧ Q (frzP 2 Hs out).1 a') := by
  conv => whnf
  refine ⟨l, rfl, hl, ?_⟩
  rcases h1 : rNum l a0 with ⟨_ | v1, a1⟩
  · rw [show g59 l a0 = (none, a1) by simp only [g59, RM.map, h1]]
    rw [show g104 l a0 = (none, a1) by simp only [g104, rReq, RM.map, RM.bind, h1]] at hQ
    conv => whnf
    refine ⟨a1, by kernel_rfl, Eq.mp ?_ hQ⟩
    kernel_rfl
  rw [show g59 l a0 = (some (.int .i64 v1), a1) by simp only [g59, RM.map, h1]]
  conv => whnf
  refine ⟨l, rfl, hl, ?_⟩
  rcases h2 : rNum l a1 with ⟨_ | v2, a2⟩
  · rw [show g59 l a1 = (none, a2) by simp only [g59, RM.map, h2]]
    rw [show g104 l a0 = (none, a2) by simp only [g104, rReq, RM.map, RM.bind, h1, h2]] at hQ
    conv => whnf
    refine ⟨a2, by kernel_rfl, Eq.mp ?_ hQ⟩
    kernel_rfl
  rw [show g59 l a1 = (some (.int .i64 v2), a2) by simp only [g59, RM.map, h2]]
  conv => whnf
  refine ⟨l, rfl, hl, ?_⟩
  rcases h3 : rText l a2 with ⟨_ | v3, a3⟩
  · rw [show g105 l a2 = (none, a3) by simp only [g105, RM.map, h3]]
    rw [show g104 l a0 = (none, a3) by simp only [g104, rReq, RM.map, RM.bind, h1, h2, h3]] at hQ
    conv => whnf
    refine ⟨a3, by kernel_rfl, Eq.mp ?_ hQ⟩
    kernel_rfl
  rw [show g105 l a2 = (some (.slice (bsA v3)), a3) by simp only [g105, RM.map, h3]]
  conv => whnf
  refine ⟨l, rfl, hl, ?_⟩
  rcases h4 : rText l a3 with ⟨_ | v4, a4⟩
  · rw [show g105 l a3 = (none, a4) by simp only [g105, RM.map, h4]]
    rw [show g104 l a0 = (none, a4) by simp only [g104, rReq, RM.map, RM.bind, h1, h2, h3, h4]] at hQ
    conv => whnf
    refine ⟨a4, by kernel_rfl, Eq.mp ?_ hQ⟩
    kernel_rfl
  rw [show g105 l a3 = (some (.slice (bsA v4)), a4) by simp only [g105, RM.map, h4]]
  conv => whnf
  rw [show g104 l a0 = (some ((fun x => .agg (rqC x)) (⟨v1, v2, v3, v4⟩ : RqV)), a4) by simp only [g104, rReq, RM.map, RM.bind, RM.pure, h1, h2, h3, h4]] at hQ
  refine ⟨a4, by kernel_rfl, Eq.mp ?_ hQ⟩
  kernel_rfl


set_option maxRecDepth 100000 in
theorem s104k {T : Tab} (hT : TGood Tryd.prog T) : SGood Tryd.prog 104 (readerK g104) := readerK_good g104_closed fun l a Q hl hQ => by
  have t0 := ext_good hT (s59k hT)
  have t1 := ext_good t0 (s105k t0)
  exact abody_sound t1.ok t1.ang t1.mono mixedT Tryd.func104 (entersOf Tryd.func104 (by kernel_rfl) rfl) (f104k_ok l a hl T Q hQ 0)



set_option maxRecDepth 100000 in
set_option maxHeartbeats 4000000 in
theorem f107k_ok (l : List Int) (a0 : Int) (hl : OkL l) (T : Tab) (Q : AOut → Int → Prop) (hQ : rK (g107 l a0) (fun v a' => Q (.ret v) a') (fun a' => Q (.pan eM) a')) (N : Nat) :
    abody Tryd.prog (ext (ext T 59 (readerK g59)) 105 (readerK g105)) 2 N Tryd.f107 [.ptr 0 0] [rvB 1 a0, rowB l] (fun out Hs => ∃ a', (frzP 2 Hs out).2 = [rvB 1 a', rowB l] ∧ Q (frzP 2 Hs out).1 a') := by
  conv => whnf
  refine ⟨l, rfl, hl, ?_⟩
  rcases h1 : rNum l a0 with ⟨_ | v1, a1⟩
  · rw [show g59 l a0 = (none, a1) by simp only [g59, RM.map, h1]]
    rw [show g107 l a0 = (none, a1) by simp only [g107, rVote, RM.map, RM.bind, h1]] at hQ
    conv => whnf
    refine ⟨a1, by kernel_rfl, Eq.mp ?_ hQ⟩
    kernel_rfl
  rw [show g59 l a0 = (some (.int .i64 v1), a1) by simp only [g59, RM.map, h1]]
  conv => whnf
  refine ⟨l, rfl, hl, ?_⟩
  rcases h2 : rText l a1 with ⟨_ | v2, a2⟩
  · rw [show g105 l a1 = (none, a2) by simp only [g105, RM.map, h2]]
    rw [show g107 l a0 = (none, a2) by simp only [g107, rVote, RM.map, RM.bind, h1, h2]] at hQ
    conv => whnf
    refine ⟨a2, by kernel_rfl, Eq.mp ?_ hQ⟩
    kernel_rfl
  rw [show g105 l a1 = (some (.slice (bsA v2)), a2) by simp only [g105, RM.map, h2]]
  conv => whnf
  rw [show g107 l a0 = (some ((fun x => .agg (vtC x)) (⟨v1, v2⟩ : VtV)), a2) by simp only [g107, rVote, RM.map, RM.bind, RM.pure, h1, h2]] at hQ
  refine ⟨a2, by kernel_rfl, Eq.mp ?_ hQ⟩
  kernel_rfl


set_option maxRecDepth 100000 in
theorem s107k {T : Tab} (hT : TGood Tryd.prog T) : SGood Tryd.prog 107 (readerK g107) := readerK_good g107_closed fun l a Q hl hQ => by
  have t0 := ext_good hT (s59k hT)
  have t1 := ext_good t0 (s105k t0)
  exact abody_sound t1.ok t1.ang t1.mono mixedT Tryd.func107 (entersOf Tryd.func107 (by kernel_rfl) rfl) (f107k_ok l a hl T Q hQ 0)


set_option maxRecDepth 100000 in
set_option maxHeartbeats 8000000 in
theorem f106k_ok (l : List Int) (a0 : Int) (hl : OkL l) (T : Tab) (Q : AOut → Int → Prop) (hQ : rK (g106 l a0) (fun v a' => Q (.ret v) a') (fun a' => Q (.pan eM) a')) (N : Nat) (hN : 64 < N) :
    abody Tryd.prog (ext (ext T 59 (readerK g59)) 107 (readerK g107)) 2 N Tryd.f106 [.ptr 0 0, .func (.func 107) [.ptr 0 0] []] [rvB 1 a0, rowB l] (fun out Hs => ∃ a', (frzP 2 Hs out).2 = [rvB 1 a', rowB l] ∧ Q (frzP 2 Hs out).1 a') := by
  conv => whnf
  refine ⟨l, rfl, hl, ?_⟩
  rcases h1 : rNum l a0 with ⟨_ | n, a1⟩
  · rw [show g59 l a0 = (none, a1) by simp only [g59, RM.map, h1]]
    rw [show g106 l a0 = (none, a1) by simp only [g106, rMany, RM.map, RM.bind, h1]] at hQ
    conv => whnf
    refine ⟨a1, by kernel_rfl, Eq.mp ?_ hQ⟩
    kernel_rfl
  rw [show g59 l a0 = (some (.int .i64 n), a1) by simp only [g59, RM.map, h1]]
  have hn0 := rNum_nonneg h1
  conv => whnf
  split
  · rename_i h2; have h2 : n > 64 := of_decide_eq_true h2
    rw [show g106 l a0 = (none, a1) by simp only [g106, rMany, RM.map, RM.bind, h1, if_pos h2]] at hQ
    refine ⟨a1, by kernel_rfl, Eq.mp ?_ hQ⟩
    kernel_rfl
  rename_i h2; have h2 : ¬ n > 64 := of_decide_eq_false h2
  have hG : g106 l a0 = RM.map (fun x => .slice (vtCL x)) (rList (rVote l) n.toNat) a1 := by
    simp only [g106, rMany, RM.map, RM.bind, h1, if_neg h2]
  rw [hG] at hQ
  clear hG h1
  conv => whnf
  refine aloop_at ?_ ?_ (aloop_inv (σ := Nat × List VtV × Int) (fun s => ((sp 0 22 [(1, .func (.func 107) [.ptr 0 0] []), (6, rowV2 (vtCL s.2.1)), (12, .int .i64 n), (13, .int .i64 (s.1 : Nat))]), rvB 1 s.2.2 :: rowB l :: rowH1 106 2 (vtCL s.2.1)))
    (fun s => s.1 ≤ n.toNat ∧ s.2.1.length = s.1 ∧ rList (rVote l) n.toNat a1 = RM.map (fun x => s.2.1 ++ x) (rList (rVote l) (n.toNat - s.1)) s.2.2) (fun s => n.toNat - s.1) ?_ N (0, [], a1) ⟨Nat.zero_le _, rfl, by simp [RM.map]; rcases rList (rVote l) n.toNat a1 with ⟨_ | _, _⟩ <;> rfl⟩ (by dsimp only; omega))
  · kernel_rfl
  · kernel_rfl
  clear hN
  rintro ⟨i, acc, a⟩ ⟨i1, i2, i3⟩ R hR
  dsimp only at i1 i2 i3
  have hcl : (vtCL acc).length = i := by simp [vtCL, i2]
  rcases acc with _ | ⟨x, xs⟩
  · conv => whnf
    split
    rotate_left
    · rename_i h3; have h3 : ¬ (i : Int) < n := of_decide_eq_false h3
      rw [show n.toNat - i = 0 by omega] at i3
      rw [show RM.map (fun x => AV.slice (vtCL x)) (rList (rVote l) n.toNat) a1 = (some (.slice (vtCL [])), a) by simp only [RM.map, i3, rList, RM.pure, List.append_nil]] at hQ
      conv => whnf
      refine ⟨a, by kernel_rfl, Eq.mp ?_ hQ⟩
      kernel_rfl
    rename_i h3; have h3 : (i : Int) < n := of_decide_eq_true h3
    have hi1 : IntKind.i64.wrap ((i : Int) + 1) = ((i + 1 : Nat) : Int) := by rw [IntWalk.i64_in _ (by omega)]; omega
    obtain ⟨k, hk⟩ : ∃ k, n.toNat - i = k + 1 := ⟨n.toNat - i - 1, by omega⟩
    have hk2 : n.toNat - (i + 1) = k := by omega
    rw [hk] at i3
    conv => whnf
    refine ⟨l, rfl, hl, ?_⟩
    rcases h4 : rVote l a with ⟨_ | v, a2⟩
    · rw [show g107 l a = (none, a2) by simp only [g107, RM.map, h4]]
      rw [show RM.map (fun x => AV.slice (vtCL x)) (rList (rVote l) n.toNat) a1 = (none, a2) by simp only [RM.map, i3, rList, RM.bind, h4]] at hQ
      conv => whnf
      refine ⟨a2, by kernel_rfl, Eq.mp ?_ hQ⟩
      kernel_rfl
    rw [show g107 l a = (some (.agg (vtC v)), a2) by simp only [g107, RM.map, h4]]
    have hx : rList (rVote l) (k + 1) a = RM.map (fun x => v :: x) (rList (rVote l) k) a2 := by
      simp only [rList, RM.map, RM.bind, h4, RM.pure]
    conv => whnf
    refine ⟨fits_at (ys' := [vtC v]) (by kernel_rfl) (fits_one' (by kernel_rfl) (by kernel_rfl) (by omega)), ?_⟩
    conv => whnf
    refine R_at ?_ ?_ (hR (i + 1, [v], a2) ⟨by omega, by simp only [List.length_cons, List.length_nil] at *; omega, ?_⟩ (by dsimp only; omega))
    · rw [← hi1]; kernel_rfl
    · kernel_rfl
    · rw [hk2, i3]
      show RM.map _ (rList (rVote l) (k + 1)) a = _
      simp only [RM.map] at hx ⊢
      rw [hx]
      rcases rList (rVote l) k a2 with ⟨_ | y, b⟩ <;> simp
  · conv => whnf
    split
    rotate_left
    · rename_i h3; have h3 : ¬ (i : Int) < n := of_decide_eq_false h3
      rw [show n.toNat - i = 0 by omega] at i3
      rw [show RM.map (fun x => AV.slice (vtCL x)) (rList (rVote l) n.toNat) a1 = (some (.slice (vtCL (x :: xs))), a) by simp only [RM.map, i3, rList, RM.pure, List.append_nil]] at hQ
      conv => whnf
      refine ⟨a, by kernel_rfl, Eq.mp ?_ hQ⟩
      kernel_rfl
    rename_i h3; have h3 : (i : Int) < n := of_decide_eq_true h3
    have hi1 : IntKind.i64.wrap ((i : Int) + 1) = ((i + 1 : Nat) : Int) := by rw [IntWalk.i64_in _ (by omega)]; omega
    obtain ⟨k, hk⟩ : ∃ k, n.toNat - i = k + 1 := ⟨n.toNat - i - 1, by omega⟩
    have hk2 : n.toNat - (i + 1) = k := by omega
    rw [hk] at i3
    conv => whnf
    refine ⟨l, rfl, hl, ?_⟩
    rcases h4 : rVote l a with ⟨_ | v, a2⟩
    · rw [show g107 l a = (none, a2) by simp only [g107, RM.map, h4]]
      rw [show RM.map (fun x => AV.slice (vtCL x)) (rList (rVote l) n.toNat) a1 = (none, a2) by simp only [RM.map, i3, rList, RM.bind, h4]] at hQ
      conv => whnf
      refine ⟨a2, by kernel_rfl, Eq.mp ?_ hQ⟩
      kernel_rfl
    rw [show g107 l a = (some (.agg (vtC v)), a2) by simp only [g107, RM.map, h4]]
    have hx : rList (rVote l) (k + 1) a = RM.map (fun x => v :: x) (rList (rVote l) k) a2 := by
      simp only [rList, RM.map, RM.bind, h4, RM.pure]
    conv => whnf
    refine ⟨fits_at (ys' := [vtC v]) (by kernel_rfl) (fits_one' (by kernel_rfl) (by kernel_rfl) (Nat.le_trans (Nat.le_of_eq hcl) (by omega))), ?_⟩
    conv => whnf
    refine R_at ?_ ?_ (hR (i + 1, ((x :: xs) ++ [v]), a2) ⟨by omega, by simp only [List.length_append, List.length_cons, List.length_nil] at *; omega, ?_⟩ (by dsimp only; omega))
    · rw [← hi1]; kernel_rfl
    · show _ = rvB 1 a2 :: rowB l :: rowH1 106 2 (vtCL ((x :: xs) ++ [v]))
      rw [show vtCL ((x :: xs) ++ [v]) = vtCL (x :: xs) ++ [vtC v] by simp [vtCL]]
      kernel_rfl
    · rw [hk2, i3]
      show RM.map _ (rList (rVote l) (k + 1)) a = _
      simp only [RM.map] at hx ⊢
      rw [hx]
      rcases rList (rVote l) k a2 with ⟨_ | y, b⟩ <;> simp


set_option maxRecDepth 100000 in
theorem s106k {T : Tab} (hT : TGood Tryd.prog T) : SGood Tryd.prog 106 (readK 107 g106) := readK_good g106_closed fun l a Q hl hQ => by
  have t0 := ext_good hT (s59k hT)
  have t1 := ext_good t0 (s107k t0)
  exact abody_sound t1.ok t1.ang t1.mono mixedT Tryd.func106 (entersOf Tryd.func106 (by kernel_rfl) rfl) (f106k_ok l a hl T Q hQ 65 (by omega))


set_option maxRecDepth 100000 in
set_option maxHeartbeats 8000000 in
theorem f108k_ok (l : List Int) (a0 : Int) (hl : OkL l) (T : Tab) (Q : AOut → Int → Prop) (hQ : rK (g108 l a0) (fun v a' => Q (.ret v) a') (fun a' => Q (.pan eM) a')) (N : Nat) (hN : 64 < N) :
    abody Tryd.prog (ext T 59 (readerK g59)) 2 N Tryd.f108 [.ptr 0 0, .func (.func 59) [.ptr 0 0] []] [rvB 1 a0, rowB l] (fun out Hs => ∃ a', (frzP 2 Hs out).2 = [rvB 1 a', rowB l] ∧ Q (frzP 2 Hs out).1 a') := by
  conv => whnf
  refine ⟨l, rfl, hl, ?_⟩
  rcases h1 : rNum l a0 with ⟨_ | n, a1⟩
  · rw [show g59 l a0 = (none, a1) by simp only [g59, RM.map, h1]]
    rw [show g108 l a0 = (none, a1) by simp only [g108, rMany, RM.map, RM.bind, h1]] at hQ
    conv => whnf
    refine ⟨a1, by kernel_rfl, Eq.mp ?_ hQ⟩
    kernel_rfl
  rw [show g59 l a0 = (some (.int .i64 n), a1) by simp only [g59, RM.map, h1]]
  have hn0 := rNum_nonneg h1
  conv => whnf
  split
  · rename_i h2; have h2 : n > 64 := of_decide_eq_true h2
    rw [show g108 l a0 = (none, a1) by simp only [g108, rMany, RM.map, RM.bind, h1, if_pos h2]] at hQ
    refine ⟨a1, by kernel_rfl, Eq.mp ?_ hQ⟩
    kernel_rfl
  rename_i h2; have h2 : ¬ n > 64 := of_decide_eq_false h2
  have hG : g108 l a0 = RM.map (fun x => .slice (inCL x)) (rList (rNum l) n.toNat) a1 := by
    simp only [g108, rMany, RM.map, RM.bind, h1, if_neg h2]
  rw [hG] at hQ
  clear hG h1
  conv => whnf
  refine aloop_at ?_ ?_ (aloop_inv (σ := Nat × List Int × Int) (fun s => ((sp 0 22 [(1, .func (.func 59) [.ptr 0 0] []), (6, rowV2 (inCL s.2.1)), (12, .int .i64 n), (13, .int .i64 (s.1 : Nat))]), rvB 1 s.2.2 :: rowB l :: rowH1 3 1 (inCL s.2.1)))
    (fun s => s.1 ≤ n.toNat ∧ s.2.1.length = s.1 ∧ rList (rNum l) n.toNat a1 = RM.map (fun x => s.2.1 ++ x) (rList (rNum l) (n.toNat - s.1)) s.2.2) (fun s => n.toNat - s.1) ?_ N (0, [], a1) ⟨Nat.zero_le _, rfl, by simp [RM.map]; rcases rList (rNum l) n.toNat a1 with ⟨_ | _, _⟩ <;> rfl⟩ (by dsimp only; omega))
  · kernel_rfl
  · kernel_rfl
  clear hN
  rintro ⟨i, acc, a⟩ ⟨i1, i2, i3⟩ R hR
  dsimp only at i1 i2 i3
  have hcl : (inCL acc).length = i := by simp [inCL, i2]
  rcases acc with _ | ⟨x, xs⟩
  · conv => whnf
    split
    rotate_left
    · rename_i h3; have h3 : ¬ (i : Int) < n := of_decide_eq_false h3
      rw [show n.toNat - i = 0 by omega] at i3
      rw [show RM.map (fun x => AV.slice (inCL x)) (rList (rNum l) n.toNat) a1 = (some (.slice (inCL [])), a) by simp only [RM.map, i3, rList, RM.pure, List.append_nil]] at hQ
      conv => whnf
      refine ⟨a, by kernel_rfl, Eq.mp ?_ hQ⟩
      kernel_rfl
    rename_i h3; have h3 : (i : Int) < n := of_decide_eq_true h3
    have hi1 : IntKind.i64.wrap ((i : Int) + 1) = ((i + 1 : Nat) : Int) := by rw [IntWalk.i64_in _ (by omega)]; omega
    obtain ⟨k, hk⟩ : ∃ k, n.toNat - i = k + 1 := ⟨n.toNat - i - 1, by omega⟩
    have hk2 : n.toNat - (i + 1) = k := by omega
    rw [hk] at i3
    conv => whnf
    refine ⟨l, rfl, hl, ?_⟩
    rcases h4 : rNum l a with ⟨_ | v, a2⟩
    · rw [show g59 l a = (none, a2) by simp only [g59, RM.map, h4]]
      rw [show RM.map (fun x => AV.slice (inCL x)) (rList (rNum l) n.toNat) a1 = (none, a2) by simp only [RM.map, i3, rList, RM.bind, h4]] at hQ
      conv => whnf
      refine ⟨a2, by kernel_rfl, Eq.mp ?_ hQ⟩
      kernel_rfl
    rw [show g59 l a = (some (.int .i64 v), a2) by simp only [g59, RM.map, h4]]
    have hx : rList (rNum l) (k + 1) a = RM.map (fun x => v :: x) (rList (rNum l) k) a2 := by
      simp only [rList, RM.map, RM.bind, h4, RM.pure]
    conv => whnf
    refine ⟨fits_at (ys' := [inC v]) (by kernel_rfl) (fits_one' (by kernel_rfl) (by kernel_rfl) (by omega)), ?_⟩
    conv => whnf
    refine R_at ?_ ?_ (hR (i + 1, [v], a2) ⟨by omega, by simp only [List.length_cons, List.length_nil] at *; omega, ?_⟩ (by dsimp only; omega))
    · rw [← hi1]; kernel_rfl
    · kernel_rfl
    · rw [hk2, i3]
      show RM.map _ (rList (rNum l) (k + 1)) a = _
      simp only [RM.map] at hx ⊢
      rw [hx]
      rcases rList (rNum l) k a2 with ⟨_ | y, b⟩ <;> simp
  · conv => whnf
    split
    rotate_left
    · rename_i h3; have h3 : ¬ (i : Int) < n := of_decide_eq_false h3
      rw [show n.toNat - i = 0 by omega] at i3
      rw [show RM.map (fun x => AV.slice (inCL x)) (rList (rNum l) n.toNat) a1 = (some (.slice (inCL (x :: xs))), a) by simp only [RM.map, i3, rList, RM.pure, List.append_nil]] at hQ
      conv => whnf
      refine ⟨a, by kernel_rfl, Eq.mp ?_ hQ⟩
      kernel_rfl
    rename_i h3; have h3 : (i : Int) < n := of_decide_eq_true h3
    have hi1 : IntKind.i64.wrap ((i : Int) + 1) = ((i + 1 : Nat) : Int) := by rw [IntWalk.i64_in _ (by omega)]; omega
    obtain ⟨k, hk⟩ : ∃ k, n.toNat - i = k + 1 := ⟨n.toNat - i - 1, by omega⟩
    have hk2 : n.toNat - (i + 1) = k := by omega
    rw [hk] at i3
    conv => whnf
    refine ⟨l, rfl, hl, ?_⟩
    rcases h4 : rNum l a with ⟨_ | v, a2⟩
    · rw [show g59 l a = (none, a2) by simp only [g59, RM.map, h4]]
      rw [show RM.map (fun x => AV.slice (inCL x)) (rList (rNum l) n.toNat) a1 = (none, a2) by simp only [RM.map, i3, rList, RM.bind, h4]] at hQ
      conv => whnf
      refine ⟨a2, by kernel_rfl, Eq.mp ?_ hQ⟩
      kernel_rfl
    rw [show g59 l a = (some (.int .i64 v), a2) by simp only [g59, RM.map, h4]]
    have hx : rList (rNum l) (k + 1) a = RM.map (fun x => v :: x) (rList (rNum l) k) a2 := by
      simp only [rList, RM.map, RM.bind, h4, RM.pure]
    conv => whnf
    refine ⟨fits_at (ys' := [inC v]) (by kernel_rfl) (fits_one' (by kernel_rfl) (by kernel_rfl) (Nat.le_trans (Nat.le_of_eq hcl) (by omega))), ?_⟩
    conv => whnf
    refine R_at ?_ ?_ (hR (i + 1, ((x :: xs) ++ [v]), a2) ⟨by omega, by simp only [List.length_append, List.length_cons, List.length_nil] at *; omega, ?_⟩ (by dsimp only; omega))
    · rw [← hi1]; kernel_rfl
    · show _ = rvB 1 a2 :: rowB l :: rowH1 3 1 (inCL ((x :: xs) ++ [v]))
      rw [show inCL ((x :: xs) ++ [v]) = inCL (x :: xs) ++ [inC v] by simp [inCL]]
      kernel_rfl
    · rw [hk2, i3]
      show RM.map _ (rList (rNum l) (k + 1)) a = _
      simp only [RM.map] at hx ⊢
      rw [hx]
      rcases rList (rNum l) k a2 with ⟨_ | y, b⟩ <;> simp


set_option maxRecDepth 100000 in
theorem s108k {T : Tab} (hT : TGood Tryd.prog T) : SGood Tryd.prog 108 (readK 59 g108) := readK_good g108_closed fun l a Q hl hQ => by
  have t0 := ext_good hT (s59k hT)
  exact abody_sound t0.ok t0.ang t0.mono mixedT Tryd.func108 (entersOf Tryd.func108 (by kernel_rfl) rfl) (f108k_ok l a hl T Q hQ 65 (by omega))



set_option maxRecDepth 100000 in
set_option maxHeartbeats 8000000 in
theorem f109k_ok (l : List Int) (a0 : Int) (hl : OkL l) (T : Tab) (Q : AOut → Int → Prop) (hQ : rK (g109 l a0) (fun v a' => Q (.ret v) a') (fun a' => Q (.pan eM) a')) (N : Nat) (hN : 64 < N) :
    abody Tryd.prog (ext (ext T 59 (readerK g59)) 104 (readerK g104)) 2 N Tryd.f109 [.ptr 0 0, .func (.func 104) [.ptr 0 0] []] [rvB 1 a0, rowB l] (fun out Hs => ∃ a', (frzP 2 Hs out).2 = [rvB 1 a', rowB l] ∧ Q (frzP 2 Hs out).1 a') := by
  conv => whnf
  refine ⟨l, rfl, hl, ?_⟩
  rcases h1 : rNum l a0 with ⟨_ | n, a1⟩
  · rw [show g59 l a0 = (none, a1) by simp only [g59, RM.map, h1]]
    rw [show g109 l a0 = (none, a1) by simp only [g109, rMany, RM.map, RM.bind, h1]] at hQ
    conv => whnf
    refine ⟨a1, by kernel_rfl, Eq.mp ?_ hQ⟩
    kernel_rfl
  rw [show g59 l a0 = (some (.int .i64 n), a1) by simp only [g59, RM.map, h1]]
  have hn0 := rNum_nonneg h1
  conv => whnf
  split
  · rename_i h2; have h2 : n > 64 := of_decide_eq_true h2
    rw [show g109 l a0 = (none, a1) by simp only [g109, rMany, RM.map, RM.bind, h1, if_pos h2]] at hQ
    refine ⟨a1, by kernel_rfl, Eq.mp ?_ hQ⟩
    kernel_rfl
  rename_i h2; have h2 : ¬ n > 64 := of_decide_eq_false h2
  have hG : g109 l a0 = RM.map (fun x => .slice (rqCL x)) (rList (rReq l) n.toNat) a1 := by
    simp only [g109, rMany, RM.map, RM.bind, h1, if_neg h2]
  rw [hG] at hQ
  clear hG h1
  conv => whnf
  refine aloop_at ?_ ?_ (aloop_inv (σ := Nat × List RqV × Int) (fun s => ((sp 0 22 [(1, .func (.func 104) [.ptr 0 0] []), (6, rowV2 (rqCL s.2.1)), (12, .int .i64 n), (13, .int .i64 (s.1 : Nat))]), rvB 1 s.2.2 :: rowB l :: rowH1 28 4 (rqCL s.2.1)))
    (fun s => s.1 ≤ n.toNat ∧ s.2.1.length = s.1 ∧ rList (rReq l) n.toNat a1 = RM.map (fun x => s.2.1 ++ x) (rList (rReq l) (n.toNat - s.1)) s.2.2) (fun s => n.toNat - s.1) ?_ N (0, [], a1) ⟨Nat.zero_le _, rfl, by simp [RM.map]; rcases rList (rReq l) n.toNat a1 with ⟨_ | _, _⟩ <;> rfl⟩ (by dsimp only; omega))
  · kernel_rfl
  · kernel_rfl
  clear hN
  rintro ⟨i, acc, a⟩ ⟨i1, i2, i3⟩ R hR
  dsimp only at i1 i2 i3
  have hcl : (rqCL acc).length = i := by simp [rqCL, i2]
  rcases acc with _ | ⟨x, xs⟩
  · conv => whnf
    split
    rotate_left
    · rename_i h3; have h3 : ¬ (i : Int) < n := of_decide_eq_false h3
      rw [show n.toNat - i = 0 by omega] at i3
      rw [show RM.map (fun x => AV.slice (rqCL x)) (rList (rReq l) n.toNat) a1 = (some (.slice (rqCL [])), a) by simp only [RM.map, i3, rList, RM.pure, List.append_nil]] at hQ
      conv => whnf
      refine ⟨a, by kernel_rfl, Eq.mp ?_ hQ⟩
      kernel_rfl
    rename_i h3; have h3 : (i : Int) < n := of_decide_eq_true h3
    have hi1 : IntKind.i64.wrap ((i : Int) + 1) = ((i + 1 : Nat) : Int) := by rw [IntWalk.i64_in _ (by omega)]; omega
    obtain ⟨k, hk⟩ : ∃ k, n.toNat - i = k + 1 := ⟨n.toNat - i - 1, by omega⟩
    have hk2 : n.toNat - (i + 1) = k := by omega
    rw [hk] at i3
    conv => whnf
    refine ⟨l, rfl, hl, ?_⟩
    rcases h4 : rReq l a with ⟨_ | v, a2⟩
    · rw [show g104 l a = (none, a2) by simp only [g104, RM.map, h4]]
      rw [show RM.map (fun x => AV.slice (rqCL x)) (rList (rReq l) n.toNat) a1 = (none, a2) by simp only [RM.map, i3, rList, RM.bind, h4]] at hQ
      conv => whnf
      refine ⟨a2, by kernel_rfl, Eq.mp ?_ hQ⟩
      kernel_rfl
    rw [show g104 l a = (some (.agg (rqC v)), a2) by simp only [g104, RM.map, h4]]
    have hx : rList (rReq l) (k + 1) a = RM.map (fun x => v :: x) (rList (rReq l) k) a2 := by
      simp only [rList, RM.map, RM.bind, h4, RM.pure]
    conv => whnf
    refine ⟨fits_at (ys' := [rqC v]) (by kernel_rfl) (fits_one' (by kernel_rfl) (by kernel_rfl) (by omega)), ?_⟩
    conv => whnf
    refine R_at ?_ ?_ (hR (i + 1, [v], a2) ⟨by omega, by simp only [List.length_cons, List.length_nil] at *; omega, ?_⟩ (by dsimp only; omega))
    · rw [← hi1]; kernel_rfl
    · kernel_rfl
    · rw [hk2, i3]
      show RM.map _ (rList (rReq l) (k + 1)) a = _
      simp only [RM.map] at hx ⊢
      rw [hx]
      rcases rList (rReq l) k a2 with ⟨_ | y, b⟩ <;> simp
  · conv => whnf
    split
    rotate_left
    · rename_i h3; have h3 : ¬ (i : Int) < n := of_decide_eq_false h3
      rw [show n.toNat - i = 0 by omega] at i3
      rw [show RM.map (fun x => AV.slice (rqCL x)) (rList (rReq l) n.toNat) a1 = (some (.slice (rqCL (x :: xs))), a) by simp only [RM.map, i3, rList, RM.pure, List.append_nil]] at hQ
      conv => whnf
      refine ⟨a, by kernel_rfl, Eq.mp ?_ hQ⟩
      kernel_rfl
    rename_i h3; have h3 : (i : Int) < n := of_decide_eq_true h3
    have hi1 : IntKind.i64.wrap ((i : Int) + 1) = ((i + 1 : Nat) : Int) := by rw [IntWalk.i64_in _ (by omega)]; omega
    obtain ⟨k, hk⟩ : ∃ k, n.toNat - i = k + 1 := ⟨n.toNat - i - 1, by omega⟩
    have hk2 : n.toNat - (i + 1) = k := by omega
    rw [hk] at i3
    conv => whnf
    refine ⟨l, rfl, hl, ?_⟩
    rcases h4 : rReq l a with ⟨_ | v, a2⟩
    · rw [show g104 l a = (none, a2) by simp only [g104, RM.map, h4]]
      rw [show RM.map (fun x => AV.slice (rqCL x)) (rList (rReq l) n.toNat) a1 = (none, a2) by simp only [RM.map, i3, rList, RM.bind, h4]] at hQ
      conv => whnf
      refine ⟨a2, by kernel_rfl, Eq.mp ?_ hQ⟩
      kernel_rfl
    rw [show g104 l a = (some (.agg (rqC v)), a2) by simp only [g104, RM.map, h4]]
    have hx : rList (rReq l) (k + 1) a = RM.map (fun x => v :: x) (rList (rReq l) k) a2 := by
      simp only [rList, RM.map, RM.bind, h4, RM.pure]
    conv => whnf
    refine ⟨fits_at (ys' := [rqC v]) (by kernel_rfl) (fits_one' (by kernel_rfl) (by kernel_rfl) (Nat.le_trans (Nat.le_of_eq hcl) (by omega))), ?_⟩
    conv => whnf
    refine R_at ?_ ?_ (hR (i + 1, ((x :: xs) ++ [v]), a2) ⟨by omega, by simp only [List.length_append, List.length_cons, List.length_nil] at *; omega, ?_⟩ (by dsimp only; omega))
    · rw [← hi1]; kernel_rfl
    · show _ = rvB 1 a2 :: rowB l :: rowH1 28 4 (rqCL ((x :: xs) ++ [v]))
      rw [show rqCL ((x :: xs) ++ [v]) = rqCL (x :: xs) ++ [rqC v] by simp [rqCL]]
      kernel_rfl
    · rw [hk2, i3]
      show RM.map _ (rList (rReq l) (k + 1)) a = _
      simp only [RM.map] at hx ⊢
      rw [hx]
      rcases rList (rReq l) k a2 with ⟨_ | y, b⟩ <;> simp


set_option maxRecDepth 100000 in
theorem s109k {T : Tab} (hT : TGood Tryd.prog T) : SGood Tryd.prog 109 (readK 104 g109) := readK_good g109_closed fun l a Q hl hQ => by
  have t0 := ext_good hT (s59k hT)
  have t1 := ext_good t0 (s104k t0)
  exact abody_sound t1.ok t1.ang t1.mono mixedT Tryd.func109 (entersOf Tryd.func109 (by kernel_rfl) rfl) (f109k_ok l a hl T Q hQ 65 (by omega))



set_option maxRecDepth 100000 in
set_option maxHeartbeats 4000000 in
theorem f132k_ok (l : List Int) (a0 : Int) (hl : OkL l) (T : Tab) (Q : AOut → Int → Prop) (hQ : rK (g132 l a0) (fun v a' => Q (.ret v) a') (fun a' => Q (.pan eM) a')) (N : Nat) :
    abody Tryd.prog (ext (ext (ext (ext T 59 (readerK g59)) 103 (readerK g103)) 104 (readerK g104)) 106 (readK 107 g106)) 2 N Tryd.f132 [.ptr 0 0] [rvB 1 a0, rowB l] (fun out Hs => ∃ a', (frzP 2 Hs out).2 = [rvB 1 a', rowB l] ∧ Q (frzP 2 Hs out).1 a') := by
  conv => whnf
  refine ⟨l, rfl, hl, ?_⟩
  rcases h1 : rNum l a0 with ⟨_ | v1, a1⟩
  · rw [show g59 l a0 = (none, a1) by simp only [g59, RM.map, h1]]
    rw [show g132 l a0 = (none, a1) by simp only [g132, rPrep, RM.map, RM.bind, h1]] at hQ
    conv => whnf
    refine ⟨a1, by kernel_rfl, Eq.mp ?_ hQ⟩
    kernel_rfl
  rw [show g59 l a0 = (some (.int .i64 v1), a1) by simp only [g59, RM.map, h1]]
  conv => whnf
  refine ⟨l, rfl, hl, ?_⟩
  rcases h2 : rBal l a1 with ⟨_ | v2, a2⟩
  · rw [show g103 l a1 = (none, a2) by simp only [g103, RM.map, h2]]
    rw [show g132 l a0 = (none, a2) by simp only [g132, rPrep, RM.map, RM.bind, h1, h2]] at hQ
    conv => whnf
    refine ⟨a2, by kernel_rfl, Eq.mp ?_ hQ⟩
    kernel_rfl
  rw [show g103 l a1 = (some (.agg (balC v2)), a2) by simp only [g103, RM.map, h2]]
  conv => whnf
  refine ⟨l, rfl, hl, ?_⟩
  rcases h3 : rReq l a2 with ⟨_ | v3, a3⟩
  · rw [show g104 l a2 = (none, a3) by simp only [g104, RM.map, h3]]
    rw [show g132 l a0 = (none, a3) by simp only [g132, rPrep, RM.map, RM.bind, h1, h2, h3]] at hQ
    conv => whnf
    refine ⟨a3, by kernel_rfl, Eq.mp ?_ hQ⟩
    kernel_rfl
  rw [show g104 l a2 = (some (.agg (rqC v3)), a3) by simp only [g104, RM.map, h3]]
  conv => whnf
  refine ⟨l, rfl, hl, ?_⟩
  rcases h4 : rMany l (rVote l) a3 with ⟨_ | v4, a4⟩
  · rw [show g106 l a3 = (none, a4) by simp only [g106, RM.map, h4]]
    rw [show g132 l a0 = (none, a4) by simp only [g132, rPrep, RM.map, RM.bind, h1, h2, h3, h4]] at hQ
    conv => whnf
    refine ⟨a4, by kernel_rfl, Eq.mp ?_ hQ⟩
    kernel_rfl
  rw [show g106 l a3 = (some (.slice (vtCL v4)), a4) by simp only [g106, RM.map, h4]]
  conv => whnf
  rw [show g132 l a0 = (some ((fun x => .agg (prC x)) (⟨v1, v2, v3, v4⟩ : PrV)), a4) by simp only [g132, rPrep, RM.map, RM.bind, RM.pure, h1, h2, h3, h4]] at hQ
  refine ⟨a4, by kernel_rfl, Eq.mp ?_ hQ⟩
  kernel_rfl


set_option maxRecDepth 100000 in
theorem s132k {T : Tab} (hT : TGood Tryd.prog T) : SGood Tryd.prog 132 (readerK g132) := readerK_good g132_closed fun l a Q hl hQ => by
  have t0 := ext_good hT (s59k hT)
  have t1 := ext_good t0 (s103k t0)
  have t2 := ext_good t1 (s104k t1)
  have t3 := ext_good t2 (s106k t2)
  exact abody_sound t3.ok t3.ang t3.mono mixedT Tryd.func132 (entersOf Tryd.func132 (by kernel_rfl) rfl) (f132k_ok l a hl T Q hQ 0)



set_option maxRecDepth 100000 in
set_option maxHeartbeats 8000000 in
theorem f131k_ok (l : List Int) (a0 : Int) (hl : OkL l) (T : Tab) (Q : AOut → Int → Prop) (hQ : rK (g131 l a0) (fun v a' => Q (.ret v) a') (fun a' => Q (.pan eM) a')) (N : Nat) (hN : 64 < N) :
    abody Tryd.prog (ext (ext T 59 (readerK g59)) 132 (readerK g132)) 2 N Tryd.f131 [.ptr 0 0, .func (.func 132) [.ptr 0 0] []] [rvB 1 a0, rowB l] (fun out Hs => ∃ a', (frzP 2 Hs out).2 = [rvB 1 a', rowB l] ∧ Q (frzP 2 Hs out).1 a') := by
  conv => whnf
  refine ⟨l, rfl, hl, ?_⟩
  rcases h1 : rNum l a0 with ⟨_ | n, a1⟩
  · rw [show g59 l a0 = (none, a1) by simp only [g59, RM.map, h1]]
    rw [show g131 l a0 = (none, a1) by simp only [g131, rMany, RM.map, RM.bind, h1]] at hQ
    conv => whnf
    refine ⟨a1, by kernel_rfl, Eq.mp ?_ hQ⟩
    kernel_rfl
  rw [show g59 l a0 = (some (.int .i64 n), a1) by simp only [g59, RM.map, h1]]
  have hn0 := rNum_nonneg h1
  conv => whnf
  split
  · rename_i h2; have h2 : n > 64 := of_decide_eq_true h2
    rw [show g131 l a0 = (none, a1) by simp only [g131, rMany, RM.map, RM.bind, h1, if_pos h2]] at hQ
    refine ⟨a1, by kernel_rfl, Eq.mp ?_ hQ⟩
    kernel_rfl
  rename_i h2; have h2 : ¬ n > 64 := of_decide_eq_false h2
  have hG : g131 l a0 = RM.map (fun x => .slice (prCL x)) (rList (rPrep l) n.toNat) a1 := by
    simp only [g131, rMany, RM.map, RM.bind, h1, if_neg h2]
  rw [hG] at hQ
  clear hG h1
  conv => whnf
  refine aloop_at ?_ ?_ (aloop_inv (σ := Nat × List PrV × Int) (fun s => ((sp 0 22 [(1, .func (.func 132) [.ptr 0 0] []), (6, rowV2 (prCL s.2.1)), (12, .int .i64 n), (13, .int .i64 (s.1 : Nat))]), rvB 1 s.2.2 :: rowB l :: rowH1 132 8 (prCL s.2.1)))
    (fun s => s.1 ≤ n.toNat ∧ s.2.1.length = s.1 ∧ rList (rPrep l) n.toNat a1 = RM.map (fun x => s.2.1 ++ x) (rList (rPrep l) (n.toNat - s.1)) s.2.2) (fun s => n.toNat - s.1) ?_ N (0, [], a1) ⟨Nat.zero_le _, rfl, by simp [RM.map]; rcases rList (rPrep l) n.toNat a1 with ⟨_ | _, _⟩ <;> rfl⟩ (by dsimp only; omega))
  · kernel_rfl
  · kernel_rfl
  clear hN
  rintro ⟨i, acc, a⟩ ⟨i1, i2, i3⟩ R hR
  dsimp only at i1 i2 i3
  have hcl : (prCL acc).length = i := by simp [prCL, i2]
  rcases acc with _ | ⟨x, xs⟩
  · conv => whnf
    split
    rotate_left
    · rename_i h3; have h3 : ¬ (i : Int) < n := of_decide_eq_false h3
      rw [show n.toNat - i = 0 by omega] at i3
      rw [show RM.map (fun x => AV.slice (prCL x)) (rList (rPrep l) n.toNat) a1 = (some (.slice (prCL [])), a) by simp only [RM.map, i3, rList, RM.pure, List.append_nil]] at hQ
      conv => whnf
      refine ⟨a, by kernel_rfl, Eq.mp ?_ hQ⟩
      kernel_rfl
    rename_i h3; have h3 : (i : Int) < n := of_decide_eq_true h3
    have hi1 : IntKind.i64.wrap ((i : Int) + 1) = ((i + 1 : Nat) : Int) := by rw [IntWalk.i64_in _ (by omega)]; omega
    obtain ⟨k, hk⟩ : ∃ k, n.toNat - i = k + 1 := ⟨n.toNat - i - 1, by omega⟩
    have hk2 : n.toNat - (i + 1) = k := by omega
    rw [hk] at i3
    conv => whnf
    refine ⟨l, rfl, hl, ?_⟩
    rcases h4 : rPrep l a with ⟨_ | v, a2⟩
    · rw [show g132 l a = (none, a2) by simp only [g132, RM.map, h4]]
      rw [show RM.map (fun x => AV.slice (prCL x)) (rList (rPrep l) n.toNat) a1 = (none, a2) by simp only [RM.map, i3, rList, RM.bind, h4]] at hQ
      conv => whnf
      refine ⟨a2, by kernel_rfl, Eq.mp ?_ hQ⟩
      kernel_rfl
    rw [show g132 l a = (some (.agg (prC v)), a2) by simp only [g132, RM.map, h4]]
    have hx : rList (rPrep l) (k + 1) a = RM.map (fun x => v :: x) (rList (rPrep l) k) a2 := by
      simp only [rList, RM.map, RM.bind, h4, RM.pure]
    conv => whnf
    refine ⟨fits_at (ys' := [prC v]) (by kernel_rfl) (fits_one' (by kernel_rfl) (by kernel_rfl) (by omega)), ?_⟩
    conv => whnf
    refine R_at ?_ ?_ (hR (i + 1, [v], a2) ⟨by omega, by simp only [List.length_cons, List.length_nil] at *; omega, ?_⟩ (by dsimp only; omega))
    · rw [← hi1]; kernel_rfl
    · kernel_rfl
    · rw [hk2, i3]
      show RM.map _ (rList (rPrep l) (k + 1)) a = _
      simp only [RM.map] at hx ⊢
      rw [hx]
      rcases rList (rPrep l) k a2 with ⟨_ | y, b⟩ <;> simp
  · conv => whnf
    split
    rotate_left
    · rename_i h3; have h3 : ¬ (i : Int) < n := of_decide_eq_false h3
      rw [show n.toNat - i = 0 by omega] at i3
      rw [show RM.map (fun x => AV.slice (prCL x)) (rList (rPrep l) n.toNat) a1 = (some (.slice (prCL (x :: xs))), a) by simp only [RM.map, i3, rList, RM.pure, List.append_nil]] at hQ
      conv => whnf
      refine ⟨a, by kernel_rfl, Eq.mp ?_ hQ⟩
      kernel_rfl
    rename_i h3; have h3 : (i : Int) < n := of_decide_eq_true h3
    have hi1 : IntKind.i64.wrap ((i : Int) + 1) = ((i + 1 : Nat) : Int) := by rw [IntWalk.i64_in _ (by omega)]; omega
    obtain ⟨k, hk⟩ : ∃ k, n.toNat - i = k + 1 := ⟨n.toNat - i - 1, by omega⟩
    have hk2 : n.toNat - (i + 1) = k := by omega
    rw [hk] at i3
    conv => whnf
    refine ⟨l, rfl, hl, ?_⟩
    rcases h4 : rPrep l a with ⟨_ | v, a2⟩
    · rw [show g132 l a = (none, a2) by simp only [g132, RM.map, h4]]
      rw [show RM.map (fun x => AV.slice (prCL x)) (rList (rPrep l) n.toNat) a1 = (none, a2) by simp only [RM.map, i3, rList, RM.bind, h4]] at hQ
      conv => whnf
      refine ⟨a2, by kernel_rfl, Eq.mp ?_ hQ⟩
      kernel_rfl
    rw [show g132 l a = (some (.agg (prC v)), a2) by simp only [g132, RM.map, h4]]
    have hx : rList (rPrep l) (k + 1) a = RM.map (fun x => v :: x) (rList (rPrep l) k) a2 := by
      simp only [rList, RM.map, RM.bind, h4, RM.pure]
    conv => whnf
    refine ⟨fits_at (ys' := [prC v]) (by kernel_rfl) (fits_one' (by kernel_rfl) (by kernel_rfl) (Nat.le_trans (Nat.le_of_eq hcl) (by omega))), ?_⟩
    conv => whnf
    refine R_at ?_ ?_ (hR (i + 1, ((x :: xs) ++ [v]), a2) ⟨by omega, by simp only [List.length_append, List.length_cons, List.length_nil] at *; omega, ?_⟩ (by dsimp only; omega))
    · rw [← hi1]; kernel_rfl
    · show _ = rvB 1 a2 :: rowB l :: rowH1 132 8 (prCL ((x :: xs) ++ [v]))
      rw [show prCL ((x :: xs) ++ [v]) = prCL (x :: xs) ++ [prC v] by simp [prCL]]
      kernel_rfl
    · rw [hk2, i3]
      show RM.map _ (rList (rPrep l) (k + 1)) a = _
      simp only [RM.map] at hx ⊢
      rw [hx]
      rcases rList (rPrep l) k a2 with ⟨_ | y, b⟩ <;> simp


set_option maxRecDepth 100000 in
theorem s131k {T : Tab} (hT : TGood Tryd.prog T) : SGood Tryd.prog 131 (readK 132 g131) := readK_good g131_closed fun l a Q hl hQ => by
  have t0 := ext_good hT (s59k hT)
  have t1 := ext_good t0 (s132k t0)
  exact abody_sound t1.ok t1.ang t1.mono mixedT Tryd.func131 (entersOf Tryd.func131 (by kernel_rfl) rfl) (f131k_ok l a hl T Q hQ 65 (by omega))


set_option maxRecDepth 100000 in
set_option maxHeartbeats 4000000 in
theorem f111k_ok (l : List Int) (a0 : Int) (hl : OkL l) (T : Tab) (Q : AOut → Int → Prop) (hQ : rK (g111 l a0) (fun v a' => Q (.ret v) a') (fun a' => Q (.pan eM) a')) (N : Nat) :
    abody Tryd.prog (ext (ext (ext (ext (ext T 103 (readerK g103)) 59 (readerK g59)) 105 (readerK g105)) 106 (readK 107 g106)) 131 (readK 132 g131)) 2 N Tryd.f111 [.ptr 0 0] [rvB 1 a0, rowB l] (fun out Hs => ∃ a', (frzP 2 Hs out).2 = [rvB 1 a', rowB l] ∧ Q (frzP 2 Hs out).1 a') := by
  conv => whnf
  refine ⟨l, rfl, hl, ?_⟩
  rcases h1 : rBal l a0 with ⟨_ | v1, a1⟩
  · rw [show g103 l a0 = (none, a1) by simp only [g103, RM.map, h1]]
    rw [show g111 l a0 = (none, a1) by simp only [g111, rReport, RM.map, RM.bind, h1]] at hQ
    conv => whnf
    refine ⟨a1, by kernel_rfl, Eq.mp ?_ hQ⟩
    kernel_rfl
  rw [show g103 l a0 = (some (.agg (balC v1)), a1) by simp only [g103, RM.map, h1]]
  conv => whnf
  refine ⟨l, rfl, hl, ?_⟩
  rcases h2 : rNum l a1 with ⟨_ | v2, a2⟩
  · rw [show g59 l a1 = (none, a2) by simp only [g59, RM.map, h2]]
    rw [show g111 l a0 = (none, a2) by simp only [g111, rReport, RM.map, RM.bind, h1, h2]] at hQ
    conv => whnf
    refine ⟨a2, by kernel_rfl, Eq.mp ?_ hQ⟩
    kernel_rfl
  rw [show g59 l a1 = (some (.int .i64 v2), a2) by simp only [g59, RM.map, h2]]
  conv => whnf
  refine ⟨l, rfl, hl, ?_⟩
  rcases h3 : rNum l a2 with ⟨_ | v3, a3⟩
  · rw [show g59 l a2 = (none, a3) by simp only [g59, RM.map, h3]]
    rw [show g111 l a0 = (none, a3) by simp only [g111, rReport, RM.map, RM.bind, h1, h2, h3]] at hQ
    conv => whnf
    refine ⟨a3, by kernel_rfl, Eq.mp ?_ hQ⟩
    kernel_rfl
  rw [show g59 l a2 = (some (.int .i64 v3), a3) by simp only [g59, RM.map, h3]]
  conv => whnf
  refine ⟨l, rfl, hl, ?_⟩
  rcases h4 : rText l a3 with ⟨_ | v4, a4⟩
  · rw [show g105 l a3 = (none, a4) by simp only [g105, RM.map, h4]]
    rw [show g111 l a0 = (none, a4) by simp only [g111, rReport, RM.map, RM.bind, h1, h2, h3, h4]] at hQ
    conv => whnf
    refine ⟨a4, by kernel_rfl, Eq.mp ?_ hQ⟩
    kernel_rfl
  rw [show g105 l a3 = (some (.slice (bsA v4)), a4) by simp only [g105, RM.map, h4]]
  conv => whnf
  refine ⟨l, rfl, hl, ?_⟩
  rcases h5 : rMany l (rVote l) a4 with ⟨_ | v5, a5⟩
  · rw [show g106 l a4 = (none, a5) by simp only [g106, RM.map, h5]]
    rw [show g111 l a0 = (none, a5) by simp only [g111, rReport, RM.map, RM.bind, h1, h2, h3, h4, h5]] at hQ
    conv => whnf
    refine ⟨a5, by kernel_rfl, Eq.mp ?_ hQ⟩
    kernel_rfl
  rw [show g106 l a4 = (some (.slice (vtCL v5)), a5) by simp only [g106, RM.map, h5]]
  conv => whnf
  refine ⟨l, rfl, hl, ?_⟩
  rcases h6 : rMany l (rPrep l) a5 with ⟨_ | v6, a6⟩
  · rw [show g131 l a5 = (none, a6) by simp only [g131, RM.map, h6]]
    rw [show g111 l a0 = (none, a6) by simp only [g111, rReport, RM.map, RM.bind, h1, h2, h3, h4, h5, h6]] at hQ
    conv => whnf
    refine ⟨a6, by kernel_rfl, Eq.mp ?_ hQ⟩
    kernel_rfl
  rw [show g131 l a5 = (some (.slice (prCL v6)), a6) by simp only [g131, RM.map, h6]]
  conv => whnf
  refine ⟨l, rfl, hl, ?_⟩
  rcases h7 : rText l a6 with ⟨_ | v7, a7⟩
  · rw [show g105 l a6 = (none, a7) by simp only [g105, RM.map, h7]]
    rw [show g111 l a0 = (none, a7) by simp only [g111, rReport, RM.map, RM.bind, h1, h2, h3, h4, h5, h6, h7]] at hQ
    conv => whnf
    refine ⟨a7, by kernel_rfl, Eq.mp ?_ hQ⟩
    kernel_rfl
  rw [show g105 l a6 = (some (.slice (bsA v7)), a7) by simp only [g105, RM.map, h7]]
  conv => whnf
  rw [show g111 l a0 = (some ((fun x => .agg (rpC x)) (⟨v1, v2, v3, v4, v5, v6, v7⟩ : RpV)), a7) by simp only [g111, rReport, RM.map, RM.bind, RM.pure, h1, h2, h3, h4, h5, h6, h7]] at hQ
  refine ⟨a7, by kernel_rfl, Eq.mp ?_ hQ⟩
  kernel_rfl


set_option maxRecDepth 100000 in
theorem s111k {T : Tab} (hT : TGood Tryd.prog T) : SGood Tryd.prog 111 (readerK g111) := readerK_good g111_closed fun l a Q hl hQ => by
  have t0 := ext_good hT (s103k hT)
  have t1 := ext_good t0 (s59k t0)
  have t2 := ext_good t1 (s105k t1)
  have t3 := ext_good t2 (s106k t2)
  have t4 := ext_good t3 (s131k t3)
  exact abody_sound t4.ok t4.ang t4.mono mixedT Tryd.func111 (entersOf Tryd.func111 (by kernel_rfl) rfl) (f111k_ok l a hl T Q hQ 0)



set_option maxRecDepth 100000 in
set_option maxHeartbeats 8000000 in
theorem f110k_ok (l : List Int) (a0 : Int) (hl : OkL l) (T : Tab) (Q : AOut → Int → Prop) (hQ : rK (g110 l a0) (fun v a' => Q (.ret v) a') (fun a' => Q (.pan eM) a')) (N : Nat) (hN : 64 < N) :
    abody Tryd.prog (ext (ext T 59 (readerK g59)) 111 (readerK g111)) 2 N Tryd.f110 [.ptr 0 0, .func (.func 111) [.ptr 0 0] []] [rvB 1 a0, rowB l] (fun out Hs => ∃ a', (frzP 2 Hs out).2 = [rvB 1 a', rowB l] ∧ Q (frzP 2 Hs out).1 a') := by
  conv => whnf
  refine ⟨l, rfl, hl, ?_⟩
  rcases h1 : rNum l a0 with ⟨_ | n, a1⟩
  · rw [show g59 l a0 = (none, a1) by simp only [g59, RM.map, h1]]
    rw [show g110 l a0 = (none, a1) by simp only [g110, rMany, RM.map, RM.bind, h1]] at hQ
    conv => whnf
    refine ⟨a1, by kernel_rfl, Eq.mp ?_ hQ⟩
    kernel_rfl
  rw [show g59 l a0 = (some (.int .i64 n), a1) by simp only [g59, RM.map, h1]]
  have hn0 := rNum_nonneg h1
  conv => whnf
  split
  · rename_i h2; have h2 : n > 64 := of_decide_eq_true h2
    rw [show g110 l a0 = (none, a1) by simp only [g110, rMany, RM.map, RM.bind, h1, if_pos h2]] at hQ
    refine ⟨a1, by kernel_rfl, Eq.mp ?_ hQ⟩
    kernel_rfl
  rename_i h2; have h2 : ¬ n > 64 := of_decide_eq_false h2
  have hG : g110 l a0 = RM.map (fun x => .slice (rpCL x)) (rList (rReport l) n.toNat) a1 := by
    simp only [g110, rMany, RM.map, RM.bind, h1, if_neg h2]
  rw [hG] at hQ
  clear hG h1
  conv => whnf
  refine aloop_at ?_ ?_ (aloop_inv (σ := Nat × List RpV × Int) (fun s => ((sp 0 22 [(1, .func (.func 111) [.ptr 0 0] []), (6, rowV2 (rpCL s.2.1)), (12, .int .i64 n), (13, .int .i64 (s.1 : Nat))]), rvB 1 s.2.2 :: rowB l :: rowH1 70 8 (rpCL s.2.1)))
    (fun s => s.1 ≤ n.toNat ∧ s.2.1.length = s.1 ∧ rList (rReport l) n.toNat a1 = RM.map (fun x => s.2.1 ++ x) (rList (rReport l) (n.toNat - s.1)) s.2.2) (fun s => n.toNat - s.1) ?_ N (0, [], a1) ⟨Nat.zero_le _, rfl, by simp [RM.map]; rcases rList (rReport l) n.toNat a1 with ⟨_ | _, _⟩ <;> rfl⟩ (by dsimp only; omega))
  · kernel_rfl
  · kernel_rfl
  clear hN
  rintro ⟨i, acc, a⟩ ⟨i1, i2, i3⟩ R hR
  dsimp only at i1 i2 i3
  have hcl : (rpCL acc).length = i := by simp [rpCL, i2]
  rcases acc with _ | ⟨x, xs⟩
  · conv => whnf
    split
    rotate_left
    · rename_i h3; have h3 : ¬ (i : Int) < n := of_decide_eq_false h3
      rw [show n.toNat - i = 0 by omega] at i3
      rw [show RM.map (fun x => AV.slice (rpCL x)) (rList (rReport l) n.toNat) a1 = (some (.slice (rpCL [])), a) by simp only [RM.map, i3, rList, RM.pure, List.append_nil]] at hQ
      conv => whnf
      refine ⟨a, by kernel_rfl, Eq.mp ?_ hQ⟩
      kernel_rfl
    rename_i h3; have h3 : (i : Int) < n := of_decide_eq_true h3
    have hi1 : IntKind.i64.wrap ((i : Int) + 1) = ((i + 1 : Nat) : Int) := by rw [IntWalk.i64_in _ (by omega)]; omega
    obtain ⟨k, hk⟩ : ∃ k, n.toNat - i = k + 1 := ⟨n.toNat - i - 1, by omega⟩
    have hk2 : n.toNat - (i + 1) = k := by omega
    rw [hk] at i3
    conv => whnf
    refine ⟨l, rfl, hl, ?_⟩
    rcases h4 : rReport l a with ⟨_ | v, a2⟩
    · rw [show g111 l a = (none, a2) by simp only [g111, RM.map, h4]]
      rw [show RM.map (fun x => AV.slice (rpCL x)) (rList (rReport l) n.toNat) a1 = (none, a2) by simp only [RM.map, i3, rList, RM.bind, h4]] at hQ
      conv => whnf
      refine ⟨a2, by kernel_rfl, Eq.mp ?_ hQ⟩
      kernel_rfl
    rw [show g111 l a = (some (.agg (rpC v)), a2) by simp only [g111, RM.map, h4]]
    have hx : rList (rReport l) (k + 1) a = RM.map (fun x => v :: x) (rList (rReport l) k) a2 := by
      simp only [rList, RM.map, RM.bind, h4, RM.pure]
    conv => whnf
    refine ⟨fits_at (ys' := [rpC v]) (by kernel_rfl) (fits_one' (by kernel_rfl) (by kernel_rfl) (by omega)), ?_⟩
    conv => whnf
    refine R_at ?_ ?_ (hR (i + 1, [v], a2) ⟨by omega, by simp only [List.length_cons, List.length_nil] at *; omega, ?_⟩ (by dsimp only; omega))
    · rw [← hi1]; kernel_rfl
    · kernel_rfl
    · rw [hk2, i3]
      show RM.map _ (rList (rReport l) (k + 1)) a = _
      simp only [RM.map] at hx ⊢
      rw [hx]
      rcases rList (rReport l) k a2 with ⟨_ | y, b⟩ <;> simp
  · conv => whnf
    split
    rotate_left
    · rename_i h3; have h3 : ¬ (i : Int) < n := of_decide_eq_false h3
      rw [show n.toNat - i = 0 by omega] at i3
      rw [show RM.map (fun x => AV.slice (rpCL x)) (rList (rReport l) n.toNat) a1 = (some (.slice (rpCL (x :: xs))), a) by simp only [RM.map, i3, rList, RM.pure, List.append_nil]] at hQ
      conv => whnf
      refine ⟨a, by kernel_rfl, Eq.mp ?_ hQ⟩
      kernel_rfl
    rename_i h3; have h3 : (i : Int) < n := of_decide_eq_true h3
    have hi1 : IntKind.i64.wrap ((i : Int) + 1) = ((i + 1 : Nat) : Int) := by rw [IntWalk.i64_in _ (by omega)]; omega
    obtain ⟨k, hk⟩ : ∃ k, n.toNat - i = k + 1 := ⟨n.toNat - i - 1, by omega⟩
    have hk2 : n.toNat - (i + 1) = k := by omega
    rw [hk] at i3
    conv => whnf
    refine ⟨l, rfl, hl, ?_⟩
    rcases h4 : rReport l a with ⟨_ | v, a2⟩
    · rw [show g111 l a = (none, a2) by simp only [g111, RM.map, h4]]
      rw [show RM.map (fun x => AV.slice (rpCL x)) (rList (rReport l) n.toNat) a1 = (none, a2) by simp only [RM.map, i3, rList, RM.bind, h4]] at hQ
      conv => whnf
      refine ⟨a2, by kernel_rfl, Eq.mp ?_ hQ⟩
      kernel_rfl
    rw [show g111 l a = (some (.agg (rpC v)), a2) by simp only [g111, RM.map, h4]]
    have hx : rList (rReport l) (k + 1) a = RM.map (fun x => v :: x) (rList (rReport l) k) a2 := by
      simp only [rList, RM.map, RM.bind, h4, RM.pure]
    conv => whnf
    refine ⟨fits_at (ys' := [rpC v]) (by kernel_rfl) (fits_one' (by kernel_rfl) (by kernel_rfl) (Nat.le_trans (Nat.le_of_eq hcl) (by omega))), ?_⟩
    conv => whnf
    refine R_at ?_ ?_ (hR (i + 1, ((x :: xs) ++ [v]), a2) ⟨by omega, by simp only [List.length_append, List.length_cons, List.length_nil] at *; omega, ?_⟩ (by dsimp only; omega))
    · rw [← hi1]; kernel_rfl
    · show _ = rvB 1 a2 :: rowB l :: rowH1 70 8 (rpCL ((x :: xs) ++ [v]))
      rw [show rpCL ((x :: xs) ++ [v]) = rpCL (x :: xs) ++ [rpC v] by simp [rpCL]]
      kernel_rfl
    · rw [hk2, i3]
      show RM.map _ (rList (rReport l) (k + 1)) a = _
      simp only [RM.map] at hx ⊢
      rw [hx]
      rcases rList (rReport l) k a2 with ⟨_ | y, b⟩ <;> simp


set_option maxRecDepth 100000 in
theorem s110k {T : Tab} (hT : TGood Tryd.prog T) : SGood Tryd.prog 110 (readK 111 g110) := readK_good g110_closed fun l a Q hl hQ => by
  have t0 := ext_good hT (s59k hT)
  have t1 := ext_good t0 (s111k t0)
  exact abody_sound t1.ok t1.ang t1.mono mixedT Tryd.func110 (entersOf Tryd.func110 (by kernel_rfl) rfl) (f110k_ok l a hl T Q hQ 65 (by omega))


end Go.Abs

/-
(*msg.reader).field over a row of the caller's, which stays, is what it comes to.
-/
namespace Go.Abs
open Go Go.Proofs
variable {P : Program}

def fieldKT : Spec := fun args H Q => match args with
  | [.ptr p o, .ptr q o', .int .i32 f] => match o, o', H[p]?, H[q]? with
    | 0, 0, some (.var [.row r, .int .i64 a]), some (.var cs) => match H[r]? with
      | some (.row wr e sz es) => cond (wr && (Nat.beq e 5 && Nat.beq sz 1)) (∃ l m i, es = bsA l ∧ cs.map unz = msC m ∧ OkL l ∧ i < 15 ∧ f = letter i ∧
        mK (rField l m i a) (fun m' a' => Q (.ret (.tuple [])) ((H.set p (rvB r a')).set q (.var (msC m')))) (fun a' => Q (.pan eM) ((H.set p (rvB r a')).set q (.var (msC m))))) False
      | _ => False
    | _, _, _, _ => False
  | _ => False
theorem fieldKT_inv {args : List AV} {H : Heap} {Q : AOut → Heap → Prop} (h : fieldKT args H Q) : ∃ p q r l a cs m i, args = [.ptr p 0, .ptr q 0, .int .i32 (letter i)] ∧ H[p]? = some (rvB r a) ∧ H[q]? = some (.var cs) ∧ H[r]? = some (rowB l) ∧ cs.map unz = msC m ∧ OkL l ∧ i < 15 ∧
    mK (rField l m i a) (fun m' a' => Q (.ret (.tuple [])) ((H.set p (rvB r a')).set q (.var (msC m')))) (fun a' => Q (.pan eM) ((H.set p (rvB r a')).set q (.var (msC m)))) := by
  unfold fieldKT at h
  split at h
  case h_2 => exact h.elim
  split at h
  case h_2 => exact h.elim
  rename_i hp hq
  split at h
  case h_2 => exact h.elim
  rename_i hr
  obtain ⟨rfl, rfl, rfl, l, m, i, rfl, hcs, hl, hi, rfl, h2⟩ := condK h
  exact ⟨_, _, _, l, _, _, m, i, rfl, hp, hq, hr, hcs, hl, hi, h2⟩
theorem fieldKT_mk {p q r : Nat} {l : List Int} {a : Int} {cs : List AV} {m : MsV} {i : Nat} {H : Heap} {Q : AOut → Heap → Prop} (hp : H[p]? = some (rvB r a)) (hq : H[q]? = some (.var cs)) (hr : H[r]? = some (rowB l)) (hcs : cs.map unz = msC m) (hl : OkL l) (hi : i < 15)
    (h : mK (rField l m i a) (fun m' a' => Q (.ret (.tuple [])) ((H.set p (rvB r a')).set q (.var (msC m')))) (fun a' => Q (.pan eM) ((H.set p (rvB r a')).set q (.var (msC m))))) : fieldKT [.ptr p 0, .ptr q 0, .int .i32 (letter i)] H Q := by
  unfold fieldKT
  simp only [hp, hq, hr, rvB, rowB]
  exact ⟨l, m, i, rfl, hcs, hl, hi, rfl, h⟩

theorem fieldKT_good {f : FuncId}
    (h : ∀ l a m i (Q : AOut → Heap → Prop), OkL l → i < 15 → mK (rField l m i a) (fun m' a' => Q (.ret (.tuple [])) [rvB 2 a', .var (msC m'), rowB l]) (fun a' => Q (.pan eM) [rvB 2 a', .var (msC m), rowB l]) →
      FOK P f [.ptr 0 0, .ptr 1 0, .int .i32 (letter i)] [rvB 2 a, .var (msC m), rowB l] Q) : SGood P f fieldKT where
  ok := fun args H Q hg => by
    obtain ⟨p, q, r, l, a, cs, m, i, rfl, hp, hq, hr, hcs, hl, hi, hQ⟩ := fieldKT_inv hg
    have hne : p ≠ q := fun e => by
      subst e
      rw [hp] at hq
      cases hq
      have := congrArg List.length hcs
      simp [msC] at this
    have hpr : p ≠ r := fun e => by subst e; rw [hp] at hr; cases hr
    have hqr : q ≠ r := fun e => by subst e; rw [hq] at hr; cases hr
    have hpl : p < H.length := (List.getElem?_eq_some_iff.1 hp).1
    have hql : q < H.length := (List.getElem?_eq_some_iff.1 hq).1
    have hrl : r < H.length := (List.getElem?_eq_some_iff.1 hr).1
    -- nil slices read asl slices without elements
    have hre : FOK P f [.ptr p 0, .ptr q 0, .int .i32 (letter i)] (H.set q (.var (msC m))) Q → FOK P f [.ptr p 0, .ptr q 0, .int .i32 (letter i)] H Q := fun h => by
      refine ⟨h.1, fun Mx G w cargs hs ht => ?_⟩
      obtain ⟨k1, k2⟩ := hs.revar (cs' := msC m) hq (by rw [← hcs, List.length_map]) (fun j v x y e1 e2 _ hr => by
        rw [← hcs, List.getElem?_map, e1] at e2
        cases e2
        cases x <;> first | exact hr | (obtain ⟨A, rfl⟩ := hr.zslice_inv; exact .slice0 ..))
      refine (h.2 Mx G w cargs k1 (by have := k2.tv ht; simpa using this)).mono fun e w' ⟨out, H', G', m1, m2, m3, m4⟩ => ⟨out, H', G', k2.trans (by simp) m1, m2, m3, m4⟩
    refine hre ?_
    have i0 : ([p, q, r] : List Nat).idxOf? p = some 0 := by simp [List.idxOf?, List.findIdx?_cons]
    have i1 : ([p, q, r] : List Nat).idxOf? q = some 1 := by simp [List.idxOf?, List.findIdx?_cons, hne]
    have i2 : ([p, q, r] : List Nat).idxOf? r = some 2 := by simp [List.idxOf?, List.findIdx?_cons, hpr, hqr]
    refine sub_call (ids := [p, q, r]) (by simp [hne, hpr, hqr]) (fun x hx => by simp at hx; rcases hx with rfl | rfl | rfl <;> simpa) ?_
    have hp' : (H.set q (.var (msC m)))[p]? = some (rvB r a) := by rw [List.getElem?_set_ne (Ne.symm hne)]; exact hp
    have hq' : (H.set q (.var (msC m)))[q]? = some (.var (msC m)) := List.getElem?_set_self hql
    have hr' : (H.set q (.var (msC m)))[r]? = some (rowB l) := by rw [List.getElem?_set_ne hqr]; exact hr
    have e1 : renL (([p, q, r] : List Nat).idxOf? ·) [.ptr p 0, .ptr q 0, .int .i32 (letter i)] = [.ptr 0 0, .ptr 1 0, .int .i32 (letter i)] := by
      simp only [renL, ren, i0, i1]
    have e2 : subH (H.set q (.var (msC m))) [p, q, r] = [rvB 2 a, .var (msC m), rowB l] := by
      simp only [subH, List.map_cons, List.map_nil, List.getD_eq_getElem?_getD, hp', hq', hr', Option.getD_some]
      simp only [rvB, rowB, renH, renL_closed _ (msC m) (msC_closed m), renL, ren, i2]
    rw [e1, e2]
    have hm : ∀ a' m', mergeH (H.set q (.var (msC m))) [p, q, r] [rvB 2 a', .var (msC m'), rowB l] = (H.set p (rvB r a')).set q (.var (msC m')) := fun a' m' => by
      unfold mergeH
      simp only [List.length_cons, List.length_nil, Nat.zero_add, Nat.reduceAdd, List.drop_succ_cons, List.drop_nil, List.map_nil, List.append_nil]
      refine List.ext_getElem? fun j => ?_
      rw [List.getElem?_map, List.getElem?_zipIdx]
      by_cases hjq : j = q
      · subst hjq
        rw [hq', List.getElem?_set_self (by simpa using hql)]
        simp [i1, renH, renL_closed _ (msC m') (msC_closed m')]
      · by_cases hjp : j = p
        · subst hjp
          rw [hp', List.getElem?_set_ne (fun e => hjq e.symm), List.getElem?_set_self hpl]
          simp only [Option.map_some, Nat.zero_add, i0, List.getD_cons_zero, rvB, renH, renL, ren]
          simp [backN]
        · rw [List.getElem?_set_ne (fun e => hjq e.symm), List.getElem?_set_ne (fun e => hjq e.symm), List.getElem?_set_ne (fun e => hjp e.symm)]
          by_cases hjr : j = r
          · subst hjr
            rw [hr]
            simp [i2, rowB, renH]
          · cases hj : H[j]? with
            | none => rfl
            | some o =>
              have : ([p, q, r] : List Nat).idxOf? j = none := by rw [List.idxOf?_eq_none_iff]; simp [hjp, hjq, hjr]
              simp [this]
    refine h l a m i _ hl hi (mK_mono (fun m' a' hh => ?_) (fun a' hh => ?_) hQ)
    · rw [hm]; exact hh
    · rw [hm]; exact hh
  ang := fun args H K hg => by
    obtain ⟨p, q, r, l, a, cs, m, i, rfl, hp, hq, hr, hcs, hl, hi, hQ⟩ := fieldKT_inv hg
    rcases hf : rField l m i a with ⟨_ | m', a'⟩
    · rw [hf] at hQ
      exact ⟨_, _, fieldKT_mk hp hq hr hcs hl hi (by rw [hf]; exact ⟨rfl, rfl⟩), hQ⟩
    · rw [hf] at hQ
      exact ⟨_, _, fieldKT_mk hp hq hr hcs hl hi (by rw [hf]; exact ⟨rfl, rfl⟩), hQ⟩
  mono := fun args H K K' hk hg => by
    obtain ⟨p, q, r, l, a, cs, m, i, rfl, hp, hq, hr, hcs, hl, hi, hQ⟩ := fieldKT_inv hg
    exact fieldKT_mk hp hq hr hcs hl hi (mK_mono (fun _ _ h => hk _ _ h) (fun _ h => hk _ _ h) hQ)

def T60k (T : Tab) : Tab := (ext (ext (ext (ext (ext (ext (ext (ext T 59 (readerK g59)) 103 (readerK g103)) 104 (readerK g104)) 105 (readerK g105)) 106 (readK 107 g106)) 108 (readK 59 g108)) 109 (readK 104 g109)) 110 (readK 111 g110))

theorem T60k_good {T : Tab} (hT : TGood Tryd.prog T) : TGood Tryd.prog (T60k T) := by
  have h0 := ext_good hT (s59k hT)
  have h1 := ext_good h0 (s103k h0)
  have h2 := ext_good h1 (s104k h1)
  have h3 := ext_good h2 (s105k h2)
  have h4 := ext_good h3 (s106k h3)
  have h5 := ext_good h4 (s108k h4)
  have h6 := ext_good h5 (s109k h5)
  have h7 := ext_good h6 (s110k h6)
  exact h7


set_option maxRecDepth 100000 in
set_option maxHeartbeats 4000000 in
theorem f60k_ok0 (l : List Int) (a : Int) (m : MsV) (hl : OkL l) (T : Tab) (Q : AOut → Heap → Prop)
    (hQ : mK (rField l m 0 a) (fun m' a' => Q (.ret (.tuple [])) [rvB 2 a', .var (msC m'), rowB l]) (fun a' => Q (.pan eM) [rvB 2 a', .var (msC m), rowB l])) (N : Nat) :
    abody Tryd.prog (T60k T) 3 N Tryd.f60 [.ptr 0 0, .ptr 1 0, .int .i32 (letter 0)] [rvB 2 a, .var (msC m), rowB l] Q := by
  conv => whnf
  refine ⟨l, rfl, hl, ?_⟩
  rcases h1 : rBal l a with ⟨_ | v, b⟩
  · rw [show g103 l a = (none, b) by simp only [g103, RM.map, h1]]
    rw [show rField l m 0 a = (none, b) by simp only [rField, RM.map, h1]] at hQ
    conv => whnf
    refine Eq.mp ?_ hQ
    kernel_rfl
  rw [show g103 l a = (some (.agg (balC v)), b) by simp only [g103, RM.map, h1]]
  rw [show rField l m 0 a = (some { m with bal := v }, b) by simp only [rField, RM.map, h1]] at hQ
  conv => whnf
  refine Eq.mp ?_ hQ
  kernel_rfl


set_option maxRecDepth 100000 in
set_option maxHeartbeats 4000000 in
theorem f60k_ok1 (l : List Int) (a : Int) (m : MsV) (hl : OkL l) (T : Tab) (Q : AOut → Heap → Prop)
    (hQ : mK (rField l m 1 a) (fun m' a' => Q (.ret (.tuple [])) [rvB 2 a', .var (msC m'), rowB l]) (fun a' => Q (.pan eM) [rvB 2 a', .var (msC m), rowB l])) (N : Nat) :
    abody Tryd.prog (T60k T) 3 N Tryd.f60 [.ptr 0 0, .ptr 1 0, .int .i32 (letter 1)] [rvB 2 a, .var (msC m), rowB l] Q := by
  conv => whnf
  refine ⟨l, rfl, hl, ?_⟩
  rcases h1 : rNum l a with ⟨_ | v, b⟩
  · rw [show g59 l a = (none, b) by simp only [g59, RM.map, h1]]
    rw [show rField l m 1 a = (none, b) by simp only [rField, RM.map, h1]] at hQ
    conv => whnf
    refine Eq.mp ?_ hQ
    kernel_rfl
  rw [show g59 l a = (some (.int .i64 v), b) by simp only [g59, RM.map, h1]]
  rw [show rField l m 1 a = (some { m with slot := v }, b) by simp only [rField, RM.map, h1]] at hQ
  conv => whnf
  refine Eq.mp ?_ hQ
  kernel_rfl


set_option maxRecDepth 100000 in
set_option maxHeartbeats 4000000 in
theorem f60k_ok2 (l : List Int) (a : Int) (m : MsV) (hl : OkL l) (T : Tab) (Q : AOut → Heap → Prop)
    (hQ : mK (rField l m 2 a) (fun m' a' => Q (.ret (.tuple [])) [rvB 2 a', .var (msC m'), rowB l]) (fun a' => Q (.pan eM) [rvB 2 a', .var (msC m), rowB l])) (N : Nat) :
    abody Tryd.prog (T60k T) 3 N Tryd.f60 [.ptr 0 0, .ptr 1 0, .int .i32 (letter 2)] [rvB 2 a, .var (msC m), rowB l] Q := by
  conv => whnf
  refine ⟨l, rfl, hl, ?_⟩
  rcases h1 : rNum l a with ⟨_ | v, b⟩
  · rw [show g59 l a = (none, b) by simp only [g59, RM.map, h1]]
    rw [show rField l m 2 a = (none, b) by simp only [rField, RM.map, h1]] at hQ
    conv => whnf
    refine Eq.mp ?_ hQ
    kernel_rfl
  rw [show g59 l a = (some (.int .i64 v), b) by simp only [g59, RM.map, h1]]
  rw [show rField l m 2 a = (some { m with from_ := v }, b) by simp only [rField, RM.map, h1]] at hQ
  conv => whnf
  refine Eq.mp ?_ hQ
  kernel_rfl


set_option maxRecDepth 100000 in
set_option maxHeartbeats 4000000 in
theorem f60k_ok3 (l : List Int) (a : Int) (m : MsV) (hl : OkL l) (T : Tab) (Q : AOut → Heap → Prop)
    (hQ : mK (rField l m 3 a) (fun m' a' => Q (.ret (.tuple [])) [rvB 2 a', .var (msC m'), rowB l]) (fun a' => Q (.pan eM) [rvB 2 a', .var (msC m), rowB l])) (N : Nat) :
    abody Tryd.prog (T60k T) 3 N Tryd.f60 [.ptr 0 0, .ptr 1 0, .int .i32 (letter 3)] [rvB 2 a, .var (msC m), rowB l] Q := by
  conv => whnf
  refine ⟨l, rfl, hl, ?_⟩
  rcases h1 : rNum l a with ⟨_ | v, b⟩
  · rw [show g59 l a = (none, b) by simp only [g59, RM.map, h1]]
    rw [show rField l m 3 a = (none, b) by simp only [rField, RM.map, h1]] at hQ
    conv => whnf
    refine Eq.mp ?_ hQ
    kernel_rfl
  rw [show g59 l a = (some (.int .i64 v), b) by simp only [g59, RM.map, h1]]
  rw [show rField l m 3 a = (some { m with to := v }, b) by simp only [rField, RM.map, h1]] at hQ
  conv => whnf
  refine Eq.mp ?_ hQ
  kernel_rfl


set_option maxRecDepth 100000 in
set_option maxHeartbeats 4000000 in
theorem f60k_ok4 (l : List Int) (a : Int) (m : MsV) (hl : OkL l) (T : Tab) (Q : AOut → Heap → Prop)
    (hQ : mK (rField l m 4 a) (fun m' a' => Q (.ret (.tuple [])) [rvB 2 a', .var (msC m'), rowB l]) (fun a' => Q (.pan eM) [rvB 2 a', .var (msC m), rowB l])) (N : Nat) :
    abody Tryd.prog (T60k T) 3 N Tryd.f60 [.ptr 0 0, .ptr 1 0, .int .i32 (letter 4)] [rvB 2 a, .var (msC m), rowB l] Q := by
  conv => whnf
  refine ⟨l, rfl, hl, ?_⟩
  rcases h1 : rNum l a with ⟨_ | v, b⟩
  · rw [show g59 l a = (none, b) by simp only [g59, RM.map, h1]]
    rw [show rField l m 4 a = (none, b) by simp only [rField, RM.map, h1]] at hQ
    conv => whnf
    refine Eq.mp ?_ hQ
    kernel_rfl
  rw [show g59 l a = (some (.int .i64 v), b) by simp only [g59, RM.map, h1]]
  rw [show rField l m 4 a = (some { m with index := v }, b) by simp only [rField, RM.map, h1]] at hQ
  conv => whnf
  refine Eq.mp ?_ hQ
  kernel_rfl


set_option maxRecDepth 100000 in
set_option maxHeartbeats 4000000 in
theorem f60k_ok5 (l : List Int) (a : Int) (m : MsV) (hl : OkL l) (T : Tab) (Q : AOut → Heap → Prop)
    (hQ : mK (rField l m 5 a) (fun m' a' => Q (.ret (.tuple [])) [rvB 2 a', .var (msC m'), rowB l]) (fun a' => Q (.pan eM) [rvB 2 a', .var (msC m), rowB l])) (N : Nat) :
    abody Tryd.prog (T60k T) 3 N Tryd.f60 [.ptr 0 0, .ptr 1 0, .int .i32 (letter 5)] [rvB 2 a, .var (msC m), rowB l] Q := by
  conv => whnf
  refine ⟨l, rfl, hl, ?_⟩
  rcases h1 : rNum l a with ⟨_ | v, b⟩
  · rw [show g59 l a = (none, b) by simp only [g59, RM.map, h1]]
    rw [show rField l m 5 a = (none, b) by simp only [rField, RM.map, h1]] at hQ
    conv => whnf
    refine Eq.mp ?_ hQ
    kernel_rfl
  rw [show g59 l a = (some (.int .i64 v), b) by simp only [g59, RM.map, h1]]
  rw [show rField l m 5 a = (some { m with count := v }, b) by simp only [rField, RM.map, h1]] at hQ
  conv => whnf
  refine Eq.mp ?_ hQ
  kernel_rfl


set_option maxRecDepth 100000 in
set_option maxHeartbeats 4000000 in
theorem f60k_ok6 (l : List Int) (a : Int) (m : MsV) (hl : OkL l) (T : Tab) (Q : AOut → Heap → Prop)
    (hQ : mK (rField l m 6 a) (fun m' a' => Q (.ret (.tuple [])) [rvB 2 a', .var (msC m'), rowB l]) (fun a' => Q (.pan eM) [rvB 2 a', .var (msC m), rowB l])) (N : Nat) :
    abody Tryd.prog (T60k T) 3 N Tryd.f60 [.ptr 0 0, .ptr 1 0, .int .i32 (letter 6)] [rvB 2 a, .var (msC m), rowB l] Q := by
  conv => whnf
  refine ⟨l, rfl, hl, ?_⟩
  rcases h1 : rReq l a with ⟨_ | v, b⟩
  · rw [show g104 l a = (none, b) by simp only [g104, RM.map, h1]]
    rw [show rField l m 6 a = (none, b) by simp only [rField, RM.map, h1]] at hQ
    conv => whnf
    refine Eq.mp ?_ hQ
    kernel_rfl
  rw [show g104 l a = (some (.agg (rqC v)), b) by simp only [g104, RM.map, h1]]
  rw [show rField l m 6 a = (some { m with req := v }, b) by simp only [rField, RM.map, h1]] at hQ
  conv => whnf
  refine Eq.mp ?_ hQ
  kernel_rfl


set_option maxRecDepth 100000 in
set_option maxHeartbeats 4000000 in
theorem f60k_ok7 (l : List Int) (a : Int) (m : MsV) (hl : OkL l) (T : Tab) (Q : AOut → Heap → Prop)
    (hQ : mK (rField l m 7 a) (fun m' a' => Q (.ret (.tuple [])) [rvB 2 a', .var (msC m'), rowB l]) (fun a' => Q (.pan eM) [rvB 2 a', .var (msC m), rowB l])) (N : Nat) :
    abody Tryd.prog (T60k T) 3 N Tryd.f60 [.ptr 0 0, .ptr 1 0, .int .i32 (letter 7)] [rvB 2 a, .var (msC m), rowB l] Q := by
  conv => whnf
  refine ⟨l, rfl, hl, ?_⟩
  rcases h1 : rReq l a with ⟨_ | v, b⟩
  · rw [show g104 l a = (none, b) by simp only [g104, RM.map, h1]]
    rw [show rField l m 7 a = (none, b) by simp only [rField, RM.map, h1]] at hQ
    conv => whnf
    refine Eq.mp ?_ hQ
    kernel_rfl
  rw [show g104 l a = (some (.agg (rqC v)), b) by simp only [g104, RM.map, h1]]
  rw [show rField l m 7 a = (some { m with other := v }, b) by simp only [rField, RM.map, h1]] at hQ
  conv => whnf
  refine Eq.mp ?_ hQ
  kernel_rfl


set_option maxRecDepth 100000 in
set_option maxHeartbeats 4000000 in
theorem f60k_ok8 (l : List Int) (a : Int) (m : MsV) (hl : OkL l) (T : Tab) (Q : AOut → Heap → Prop)
    (hQ : mK (rField l m 8 a) (fun m' a' => Q (.ret (.tuple [])) [rvB 2 a', .var (msC m'), rowB l]) (fun a' => Q (.pan eM) [rvB 2 a', .var (msC m), rowB l])) (N : Nat) :
    abody Tryd.prog (T60k T) 3 N Tryd.f60 [.ptr 0 0, .ptr 1 0, .int .i32 (letter 8)] [rvB 2 a, .var (msC m), rowB l] Q := by
  conv => whnf
  refine ⟨l, rfl, hl, ?_⟩
  rcases h1 : rText l a with ⟨_ | v, b⟩
  · rw [show g105 l a = (none, b) by simp only [g105, RM.map, h1]]
    rw [show rField l m 8 a = (none, b) by simp only [rField, RM.map, h1]] at hQ
    conv => whnf
    refine Eq.mp ?_ hQ
    kernel_rfl
  rw [show g105 l a = (some (.slice (bsA v)), b) by simp only [g105, RM.map, h1]]
  rw [show rField l m 8 a = (some { m with data := v }, b) by simp only [rField, RM.map, h1]] at hQ
  conv => whnf
  refine Eq.mp ?_ hQ
  kernel_rfl


set_option maxRecDepth 100000 in
set_option maxHeartbeats 4000000 in
theorem f60k_ok9 (l : List Int) (a : Int) (m : MsV) (hl : OkL l) (T : Tab) (Q : AOut → Heap → Prop)
    (hQ : mK (rField l m 9 a) (fun m' a' => Q (.ret (.tuple [])) [rvB 2 a', .var (msC m'), rowB l]) (fun a' => Q (.pan eM) [rvB 2 a', .var (msC m), rowB l])) (N : Nat) :
    abody Tryd.prog (T60k T) 3 N Tryd.f60 [.ptr 0 0, .ptr 1 0, .int .i32 (letter 9)] [rvB 2 a, .var (msC m), rowB l] Q := by
  conv => whnf
  refine ⟨l, rfl, hl, ?_⟩
  rcases h1 : rText l a with ⟨_ | v, b⟩
  · rw [show g105 l a = (none, b) by simp only [g105, RM.map, h1]]
    rw [show rField l m 9 a = (none, b) by simp only [rField, RM.map, h1]] at hQ
    conv => whnf
    refine Eq.mp ?_ hQ
    kernel_rfl
  rw [show g105 l a = (some (.slice (bsA v)), b) by simp only [g105, RM.map, h1]]
  rw [show rField l m 9 a = (some { m with sig := v }, b) by simp only [rField, RM.map, h1]] at hQ
  conv => whnf
  refine Eq.mp ?_ hQ
  kernel_rfl


set_option maxRecDepth 100000 in
set_option maxHeartbeats 4000000 in
theorem f60k_ok10 (l : List Int) (a : Int) (m : MsV) (hl : OkL l) (T : Tab) (Q : AOut → Heap → Prop)
    (hQ : mK (rField l m 10 a) (fun m' a' => Q (.ret (.tuple [])) [rvB 2 a', .var (msC m'), rowB l]) (fun a' => Q (.pan eM) [rvB 2 a', .var (msC m), rowB l])) (N : Nat) :
    abody Tryd.prog (T60k T) 3 N Tryd.f60 [.ptr 0 0, .ptr 1 0, .int .i32 (letter 10)] [rvB 2 a, .var (msC m), rowB l] Q := by
  conv => whnf
  refine ⟨l, rfl, hl, ?_⟩
  rcases h1 : rMany l (rVote l) a with ⟨_ | v, b⟩
  · rw [show g106 l a = (none, b) by simp only [g106, RM.map, h1]]
    rw [show rField l m 10 a = (none, b) by simp only [rField, RM.map, h1]] at hQ
    conv => whnf
    refine Eq.mp ?_ hQ
    kernel_rfl
  rw [show g106 l a = (some (.slice (vtCL v)), b) by simp only [g106, RM.map, h1]]
  rw [show rField l m 10 a = (some { m with cert := v }, b) by simp only [rField, RM.map, h1]] at hQ
  conv => whnf
  refine Eq.mp ?_ hQ
  kernel_rfl


set_option maxRecDepth 100000 in
set_option maxHeartbeats 4000000 in
theorem f60k_ok11 (l : List Int) (a : Int) (m : MsV) (hl : OkL l) (T : Tab) (Q : AOut → Heap → Prop)
    (hQ : mK (rField l m 11 a) (fun m' a' => Q (.ret (.tuple [])) [rvB 2 a', .var (msC m'), rowB l]) (fun a' => Q (.pan eM) [rvB 2 a', .var (msC m), rowB l])) (N : Nat) :
    abody Tryd.prog (T60k T) 3 N Tryd.f60 [.ptr 0 0, .ptr 1 0, .int .i32 (letter 11)] [rvB 2 a, .var (msC m), rowB l] Q := by
  conv => whnf
  refine ⟨l, rfl, hl, ?_⟩
  rcases h1 : rMany l (rVote l) a with ⟨_ | v, b⟩
  · rw [show g106 l a = (none, b) by simp only [g106, RM.map, h1]]
    rw [show rField l m 11 a = (none, b) by simp only [rField, RM.map, h1]] at hQ
    conv => whnf
    refine Eq.mp ?_ hQ
    kernel_rfl
  rw [show g106 l a = (some (.slice (vtCL v)), b) by simp only [g106, RM.map, h1]]
  rw [show rField l m 11 a = (some { m with votes := v }, b) by simp only [rField, RM.map, h1]] at hQ
  conv => whnf
  refine Eq.mp ?_ hQ
  kernel_rfl


set_option maxRecDepth 100000 in
set_option maxHeartbeats 4000000 in
theorem f60k_ok12 (l : List Int) (a : Int) (m : MsV) (hl : OkL l) (T : Tab) (Q : AOut → Heap → Prop)
    (hQ : mK (rField l m 12 a) (fun m' a' => Q (.ret (.tuple [])) [rvB 2 a', .var (msC m'), rowB l]) (fun a' => Q (.pan eM) [rvB 2 a', .var (msC m), rowB l])) (N : Nat) :
    abody Tryd.prog (T60k T) 3 N Tryd.f60 [.ptr 0 0, .ptr 1 0, .int .i32 (letter 12)] [rvB 2 a, .var (msC m), rowB l] Q := by
  conv => whnf
  refine ⟨l, rfl, hl, ?_⟩
  rcases h1 : rMany l (rNum l) a with ⟨_ | v, b⟩
  · rw [show g108 l a = (none, b) by simp only [g108, RM.map, h1]]
    rw [show rField l m 12 a = (none, b) by simp only [rField, RM.map, h1]] at hQ
    conv => whnf
    refine Eq.mp ?_ hQ
    kernel_rfl
  rw [show g108 l a = (some (.slice (inCL v)), b) by simp only [g108, RM.map, h1]]
  rw [show rField l m 12 a = (some { m with order := v }, b) by simp only [rField, RM.map, h1]] at hQ
  conv => whnf
  refine Eq.mp ?_ hQ
  kernel_rfl


set_option maxRecDepth 100000 in
set_option maxHeartbeats 4000000 in
theorem f60k_ok13 (l : List Int) (a : Int) (m : MsV) (hl : OkL l) (T : Tab) (Q : AOut → Heap → Prop)
    (hQ : mK (rField l m 13 a) (fun m' a' => Q (.ret (.tuple [])) [rvB 2 a', .var (msC m'), rowB l]) (fun a' => Q (.pan eM) [rvB 2 a', .var (msC m), rowB l])) (N : Nat) :
    abody Tryd.prog (T60k T) 3 N Tryd.f60 [.ptr 0 0, .ptr 1 0, .int .i32 (letter 13)] [rvB 2 a, .var (msC m), rowB l] Q := by
  conv => whnf
  refine ⟨l, rfl, hl, ?_⟩
  rcases h1 : rMany l (rReq l) a with ⟨_ | v, b⟩
  · rw [show g109 l a = (none, b) by simp only [g109, RM.map, h1]]
    rw [show rField l m 13 a = (none, b) by simp only [rField, RM.map, h1]] at hQ
    conv => whnf
    refine Eq.mp ?_ hQ
    kernel_rfl
  rw [show g109 l a = (some (.slice (rqCL v)), b) by simp only [g109, RM.map, h1]]
  rw [show rField l m 13 a = (some { m with picks := v }, b) by simp only [rField, RM.map, h1]] at hQ
  conv => whnf
  refine Eq.mp ?_ hQ
  kernel_rfl


set_option maxRecDepth 100000 in
set_option maxHeartbeats 4000000 in
theorem f60k_ok14 (l : List Int) (a : Int) (m : MsV) (hl : OkL l) (T : Tab) (Q : AOut → Heap → Prop)
    (hQ : mK (rField l m 14 a) (fun m' a' => Q (.ret (.tuple [])) [rvB 2 a', .var (msC m'), rowB l]) (fun a' => Q (.pan eM) [rvB 2 a', .var (msC m), rowB l])) (N : Nat) :
    abody Tryd.prog (T60k T) 3 N Tryd.f60 [.ptr 0 0, .ptr 1 0, .int .i32 (letter 14)] [rvB 2 a, .var (msC m), rowB l] Q := by
  conv => whnf
  refine ⟨l, rfl, hl, ?_⟩
  rcases h1 : rMany l (rReport l) a with ⟨_ | v, b⟩
  · rw [show g110 l a = (none, b) by simp only [g110, RM.map, h1]]
    rw [show rField l m 14 a = (none, b) by simp only [rField, RM.map, h1]] at hQ
    conv => whnf
    refine Eq.mp ?_ hQ
    kernel_rfl
  rw [show g110 l a = (some (.slice (rpCL v)), b) by simp only [g110, RM.map, h1]]
  rw [show rField l m 14 a = (some { m with reports := v }, b) by simp only [rField, RM.map, h1]] at hQ
  conv => whnf
  refine Eq.mp ?_ hQ
  kernel_rfl


set_option maxRecDepth 100000 in
theorem s60k {T : Tab} (hT : TGood Tryd.prog T) : SGood Tryd.prog 60 fieldKT := fieldKT_good fun l a m i Q hl hi hQ => by
  have h1 := T60k_good hT
  refine abody_sound h1.ok h1.ang h1.mono mixedT Tryd.func60 (entersOf Tryd.func60 (by kernel_rfl) rfl) (N := 0) ?_
  match i, hi with
  | 0, _ => exact f60k_ok0 l a m hl T Q hQ 0
  | 1, _ => exact f60k_ok1 l a m hl T Q hQ 0
  | 2, _ => exact f60k_ok2 l a m hl T Q hQ 0
  | 3, _ => exact f60k_ok3 l a m hl T Q hQ 0
  | 4, _ => exact f60k_ok4 l a m hl T Q hQ 0
  | 5, _ => exact f60k_ok5 l a m hl T Q hQ 0
  | 6, _ => exact f60k_ok6 l a m hl T Q hQ 0
  | 7, _ => exact f60k_ok7 l a m hl T Q hQ 0
  | 8, _ => exact f60k_ok8 l a m hl T Q hQ 0
  | 9, _ => exact f60k_ok9 l a m hl T Q hQ 0
  | 10, _ => exact f60k_ok10 l a m hl T Q hQ 0
  | 11, _ => exact f60k_ok11 l a m hl T Q hQ 0
  | 12, _ => exact f60k_ok12 l a m hl T Q hQ 0
  | 13, _ => exact f60k_ok13 l a m hl T Q hQ 0
  | 14, _ => exact f60k_ok14 l a m hl T Q hQ 0
  | i + 15, hi => omega

end Go.Abs

/-
msg.Decode over a row of the caller's, which stays, is what it comes to.
-/
namespace Go.Abs
open Go Go.Proofs

def K58k (l : List Int) : KT := fun e _ H => e = .normal ∧ H = [rowB l, .var zC, .var [.int .i64 51]]

set_option maxRecDepth 100000 in
set_option maxHeartbeats 2000000 in
theorem rest58k_ok (l : List Int) (m : MsV) (T : Tab) (N : Nat) :
    acode Tryd.prog T 3 N (seqR (bodyOf Tryd.f58)) { nxt := [], ex := [], rt := [] } (K58k l) [.ptr 1 0, .ptr 2 0, eM, eM, .tuple [], .tuple [], .tuple [], .tuple [], .tuple []] [rowB l, .var (msC m), .var [.int .i64 0]] := by
  conv => whnf
  refine Exists.intro [3, 4] ?_
  conv => whnf
  refine ⟨rfl, ?_⟩
  kernel_rfl


set_option maxRecDepth 100000 in
set_option maxHeartbeats 4000000 in
/-- It catches what was thrown. -/
theorem callsD58k {l : List Int} {Mx : Mut} {G : Gh} {w : World} {m : MsV} {v2 v3 v : Value} (hs : Sim Mx G [rowB l, .var (msC m), .var [.int .i64 0]] w)
    (h2 : RV w (MM Mx G [rowB l, .var (msC m), .var [.int .i64 0]]) 3 G v2 (.ptr 1 0)) (h3 : RV w (MM Mx G [rowB l, .var (msC m), .var [.int .i64 0]]) 3 G v3 (.ptr 2 0)) (hv : RV w (MM Mx G [rowB l, .var (msC m), .var [.int .i64 0]]) 3 G v eM) :
    CallsD Tryd.prog 58 #[v2, v3] (.panicking [{ v, recovered := false }]) w fun e u' w' => (∃ r, e = .returned r) ∧ settle u' = .returning ∧
      ∃ G', Step 3 Mx G [rowB l, .var (msC m), .var [.int .i64 0]] w G' [rowB l, .var zC, .var [.int .i64 51]] w' ∧ Sim Mx G' [rowB l, .var zC, .var [.int .i64 51]] w' := by
  refine callsD_of_wpS Tryd.func58 rfl fun c₀ cs hu => ?_
  apply wpS_seq
  apply wpS_region
  have ht : TV w (MM Mx G [rowB l, .var (msC m), .var [.int .i64 0]]) 3 G #[v2, v3, v, v, undef, undef, undef, undef, undef] [.ptr 1 0, .ptr 2 0, eM, eM, .tuple [], .tuple [], .tuple [], .tuple [], .tuple []] := by
    refine ⟨rfl, fun i u x e1 e2 => ?_⟩
    have un : RV w (MM Mx G [rowB l, .var (msC m), .var [.int .i64 0]]) 3 G undef (.tuple []) := .tuple _ _ _ _ rfl (fun i v x h => by simp at h)
    match i, e1, e2 with
    | 0, e1, e2 => cases e1; cases e2; exact h2
    | 1, e1, e2 => cases e1; cases e2; exact h3
    | 2, e1, e2 => cases e1; cases e2; exact hv
    | 3, e1, e2 => cases e1; cases e2; exact hv
    | 4, e1, e2 => cases e1; cases e2; exact un
    | 5, e1, e2 => cases e1; cases e2; exact un
    | 6, e1, e2 => cases e1; cases e2; exact un
    | 7, e1, e2 => cases e1; cases e2; exact un
    | 8, e1, e2 => cases e1; cases e2; exact un
    | i + 9, e1, e2 => simp at e2
  have hT0 : TGood Tryd.prog noTab := noTab_good
  have hrest := acode_sound (P := Tryd.prog) hT0.ok hT0.ang hT0.mono mixedT 3 0 (seqR (bodyOf Tryd.f58)) { nxt := [], ex := [], rt := [] } (K58k l) _ _ (rest58k_ok l m noTab 0) Mx G w
    { tmps := #[v2, v3, v, v, undef, undef, undef, undef, undef], defers := [] } (Nat.le_refl _) hs ht
  simp [wpOpsS, go_sem, recoverD, hu, Exit.thenS]
  refine wpS_of_wp ?_
  have hact : (#[v2, v3] ++ ((Array.replicate 7 undef).setIfInBounds 1 v).setIfInBounds 0 v) = #[v2, v3, v, v, undef, undef, undef, undef, undef] := rfl
  rw [hact]
  refine hrest _ (fun e e' a' H' G' w' act' g1 g2 g3 g4 g5 g6 => ?_)
  obtain ⟨e1, e2⟩ := g6
  subst e1 e2
  cases g5
  refine ⟨g4, .panicking [{ v := v, recovered := true }], rfl, .tuple #[], by simp [results], ⟨_, rfl⟩, rfl, G', g1, g2⟩


def H0k (l : List Int) : Heap := [rowB l, .var zC, .var [.int .i64 0]]

def A0k (_ : List Int) : List AV := [.row 0, .tuple [], .ptr 1 0, .ptr 2 0] ++ List.replicate 41 (.tuple [])

def A1k (l : List Int) : List AV := [.row 0, .tuple [], .ptr 1 0, .ptr 2 0, .tuple [], .tuple [], .tuple [], .tuple [], .row 0, .int .i64 ((bsA l).length : Nat), .bool false] ++ List.replicate 34 (.tuple [])

def A2k (l : List Int) : List AV := [.row 0, .tuple [], .ptr 1 0, .ptr 2 0, .tuple [], .tuple [], .tuple [], .tuple [], .row 0, .int .i64 ((bsA l).length : Nat), .bool false, .tuple [], .func (.func 58) [] [.ptr 1 0, .ptr 2 0]] ++ List.replicate 32 (.tuple [])

def RetK (l : List Int) (Q : AOut → Prop) (a : List AV) (H : Heap) : Prop := ∃ cs e0, agc 3 [0, 1] [a.getD 2 .any, a.getD 3 .any] H = ([.ptr 1 0, .ptr 2 0], [rowB l, .var cs, .var [.int .i64 e0]]) ∧ (∃ m, cs.map unz = msC m) ∧ Q (.ret (.tuple [.agg (cs.map unz), .int .i64 e0]))

def K0k (l : List Int) : KT := fun e a H => e = .normal ∧ a = A0k l ∧ H = (H0k l)

def K1k (l : List Int) (Q : AOut → Prop) : KT := fun e a H => (e = .normal ∧ a = A1k l ∧ H = (H0k l) ∧ ¬ (l.length : Int) > 1048576) ∨ (e = .ret ∧ RetK l Q a H)

def K3k (l : List Int) (Q : AOut → Prop) : KT := fun e a H => match e with
  | .pan v => ∃ cs m, agc 3 [0, 1, 2] [v, a.getD 2 .any, a.getD 3 .any] H = ([eM, .ptr 1 0, .ptr 2 0], [rowB l, .var cs, .var [.int .i64 0]]) ∧ cs.map unz = msC m ∧ Q (.ret (.tuple [.agg (msC zM), .int .i64 51]))
  | .exit _ => False
  | _ => RetK l Q a H


set_option maxRecDepth 100000 in
set_option maxHeartbeats 4000000 in
theorem d0k_ok (l : List Int) (T : Tab) (N : Nat) : acode Tryd.prog T 1 N (seqL (bodyOf Tryd.f20)) leD (K0k l) ([.row 0] ++ List.replicate 44 (.tuple [])) [rowB l] := by
  conv => whnf
  refine ⟨rfl, ?_, ?_⟩
  · kernel_rfl
  · kernel_rfl


set_option maxRecDepth 100000 in
set_option maxHeartbeats 4000000 in
theorem d1k_ok (l : List Int) (T : Tab) (N : Nat) (Q : AOut → Prop) (hQ : Q (.ret (.tuple [.agg (msC (decM l).1), .int .i64 (decM l).2]))) : acode Tryd.prog T 3 N (seqL (seqR (bodyOf Tryd.f20))) leD (K1k l Q) (A0k l) (H0k l) := by
  have hlen : ((bsA l).length : Int) = (l.length : Int) := by rw [bsA_length]
  conv => whnf
  split
  · rename_i h
    have h : ((bsA l).length : Int) > 1048576 := of_decide_eq_true h
    rw [hlen] at h
    unfold decM at hQ
    rw [if_pos h] at hQ
    conv => whnf
    refine .inr ⟨rfl, zC, 53, by kernel_rfl, ⟨zM, rfl⟩, ?_⟩
    exact hQ
  · rename_i h
    have h : ¬ ((bsA l).length : Int) > 1048576 := of_decide_eq_false h
    rw [hlen] at h
    conv => whnf
    refine .inl ⟨rfl, ?_, ?_, h⟩
    · kernel_rfl
    · kernel_rfl


def TdecK (T : Tab) : Tab := ext (ext (ext (ext T 45 (flatT g45)) 47 (flatT g47)) 59 (readerK g59)) 60 fieldKT


set_option maxRecDepth 100000 in
set_option maxHeartbeats 8000000 in
theorem d3k_ok (l : List Int) (hl : OkL l) (hbig : ¬ (l.length : Int) > 1048576) (T : Tab) (Q : AOut → Prop) (hQ : Q (.ret (.tuple [.agg (msC (decM l).1), .int .i64 (decM l).2]))) (N : Nat) (hN : 15 < N) :
    acode Tryd.prog (TdecK T) 3 N (seqR (seqR (seqR (bodyOf Tryd.f20)))) leD (K3k l Q) (A2k l) (H0k l) := by
  have hlen : ((bsA l).length : Int) = (l.length : Int) := by rw [bsA_length]
  unfold decM at hQ
  rw [if_neg hbig] at hQ
  conv => whnf
  refine ⟨l, rfl, hl, ?_⟩
  rcases h1 : rNum l 0 with ⟨_ | k, a1⟩
  · rw [show g59 l 0 = (none, a1) by simp only [g59, RM.map, h1]]
    rw [h1] at hQ
    conv => whnf
    exact ⟨zC, zM, by kernel_rfl, rfl, hQ⟩
  rw [show g59 l 0 = (some (.int .i64 k), a1) by simp only [g59, RM.map, h1]]
  rw [h1] at hQ
  dsimp only at hQ
  conv => whnf
  refine aloop_at ?_ ?_ (aloop_inv (σ := Nat × Bool × MsV × Int) (fun s => ((sp 0 45 [(0, .row 0), (2, .ptr 1 0), (3, .ptr 2 0), (4, .ptr 3 0), (5, .str (baOf (fieldsL k))), (22, .ptr 4 0)]), [rowB l, .var (cond s.2.1 (msC s.2.2.1) (zCk k)), .var [.int .i64 0], rvB 0 s.2.2.2, .iter (baOf allL) s.1]))
    (fun s => s.1 ≤ 15 ∧ (s.2.1 = false → s.2.2.1 = { zM with kind := k }) ∧ rLoop l k 15 0 { zM with kind := k } a1 = rLoop l k (15 - s.1) s.1 s.2.2.1 s.2.2.2) (fun s => 15 - s.1) ?_ N (0, false, { zM with kind := k }, a1) ⟨Nat.zero_le _, fun _ => rfl, rfl⟩ (by dsimp only; omega))
  · kernel_rfl
  · kernel_rfl
  rintro ⟨i, fl, m, a⟩ ⟨hi, hfl, hinv⟩ R hR
  dsimp only at hi hfl hinv
  have hcs : ∀ fl', fl' = fl → (cond fl' (msC m) (zCk k)).map unz = msC m := fun fl' e => by
    subst e
    cases fl' with
    | true => rfl
    | false => rw [hfl rfl]; rfl
  cases fl
  all_goals
    have hmm := hcs _ rfl
    clear hcs
    conv => whnf
    split
    rotate_left
    · rename_i h2
      have h2 : ¬ i < (baOf allL).size := fun h => by rw [← Nat.blt_eq] at h; rw [show Nat.blt i (baOf allL).size = false from h2] at h; cases h
      rw [baOf_size] at h2
      have hi15 : i = 15 := by have : allL.length = 15 := rfl; omega
      subst hi15
      clear hR
      have hfin : rLoop l k 15 0 { zM with kind := k } a1 = (some m, a) := hinv
      rw [hfin] at hQ
      dsimp only at hQ
      have he : ((baOf (fieldsL k)).toList == (baOf []).toList) = decide (fieldsL k = []) := baOf_inj (fun b hb => by have := (fieldsL_ok k).1 b hb; omega) okB_nil
      cases hd : decide (fieldsL k = []) with
      | true =>
        rw [hd] at he
        rw [if_pos (.inl (of_decide_eq_true hd))] at hQ
        have he' : ((baOf (fieldsL k)).toList == ({ data := #[] } : ByteArray).toList) = true := he
        conv => whnf
        rw [he']
        conv => whnf
        exact ⟨zC, 51, by kernel_rfl, ⟨zM, rfl⟩, hQ⟩
      | false =>
        rw [hd] at he
        have hne : ¬ fieldsL k = [] := of_decide_eq_false hd
        have he' : ((baOf (fieldsL k)).toList == ({ data := #[] } : ByteArray).toList) = false := he
        conv => whnf
        rw [he']
        conv => whnf
        rw [hlen]
        cases hb : (a != (l.length : Int)) with
        | true =>
          rw [if_pos (.inr (bne_iff_ne.1 hb))] at hQ
          conv => whnf
          exact ⟨zC, 51, by kernel_rfl, ⟨zM, rfl⟩, hQ⟩
        | false =>
          have hab : a = (l.length : Int) := by simpa using hb
          rw [if_neg (by rintro (h | h); exact hne h; exact h hab)] at hQ
          conv => whnf
          rw [← hmm] at hQ
          exact ⟨_, 0, by kernel_rfl, ⟨m, hmm⟩, hQ⟩
    rename_i h2
    have h2 : i < (baOf allL).size := Nat.blt_eq.mp h2
    rw [baOf_size] at h2
    have hi15 : i < 15 := h2
    obtain ⟨n, hn⟩ : ∃ n, 15 - i = n + 1 := ⟨14 - i, by omega⟩
    have hn2 : 15 - (i + 1) = n := by omega
    rw [hn] at hinv
    have hget : allL[i]? = some (letter i) := allL_get ⟨i, hi15⟩
    have hd := dec_baOf allL_okA hget
    have hb0 := (allL_okA _ (List.mem_of_getElem? hget)).1
    have hd1 : ((Utf8.decode (baOf allL) i).1 : Int) = letter i := by rw [hd]; show (((letter i).toNat : Nat) : Int) = letter i; omega
    have hd2 : (Utf8.decode (baOf allL) i).2 = 1 := by rw [hd]
    have hH : ∀ x y z u : HO, [x, y, z, u, HO.iter (baOf allL) (i + (Utf8.decode (baOf allL) i).2)] = [x, y, z, u, HO.iter (baOf allL) (i + 1)] := fun x y z u => by rw [hd2]
    conv => whnf
    rw [hd1]
    refine ⟨fieldsL k, rfl, (fieldsL_ok _).1, (fieldsL_ok _).2, ?_⟩
    conv => whnf
    split
    · rename_i h3
      have h3 : hasF k i = true := h3
      rcases h4 : rField l m i a with ⟨_ | m', a'⟩
      · have : rLoop l k 15 0 { zM with kind := k } a1 = (none, a') := by rw [hinv]; simp only [rLoop, RM.bind, h3, _root_.cond_true, h4]
        rw [this] at hQ
        conv => whnf
        refine ⟨l, m, i, rfl, hmm, hl, hi15, rfl, ?_⟩
        rw [h4]
        conv => whnf
        exact ⟨_, m, by kernel_rfl, msC_unz m, hQ⟩
      · have hst : rLoop l k 15 0 { zM with kind := k } a1 = rLoop l k n (i + 1) m' a' := by rw [hinv]; simp only [rLoop, RM.bind, h3, _root_.cond_true, h4]
        conv => whnf
        refine ⟨l, m, i, rfl, hmm, hl, hi15, rfl, ?_⟩
        rw [h4]
        conv => whnf
        refine R_at ?_ ?_ (hR (i + 1, true, m', a') ⟨by omega, fun h => (by cases h), by rw [hn2]; exact hst⟩ (by dsimp only; omega))
        · kernel_rfl
        · refine Eq.trans ?_ (hH _ _ _ _)
          kernel_rfl
    · rename_i h3
      have h3 : hasF k i = false := h3
      have hst : rLoop l k 15 0 { zM with kind := k } a1 = rLoop l k n (i + 1) m a := by rw [hinv]; simp only [rLoop, RM.bind, RM.pure, h3, _root_.cond_false]
      conv => whnf
      refine R_at ?_ ?_ (hR (i + 1, _, m, a) ⟨by omega, hfl, by rw [hn2]; exact hst⟩ (by dsimp only; omega))
      · kernel_rfl
      · refine Eq.trans ?_ (hH _ _ _ _)
        kernel_rfl


theorem agc_any2k (x : AV) (H : Heap) : (agc 3 [0, 1] [x, .any] H).1[1]? = some .any := by simp [agc, keepOnly, renL, ren]
theorem deck_fin {l : List Int} {Mx : Mut} {G G' : Gh} {H' : Heap} {w w' : World} {tmps : Array Value} {a : List AV} {Q : AOut → Prop} (_hs : Sim Mx G [rowB l] w) (hst : Step 1 Mx G [rowB l] w G' H' w') (hsim : Sim Mx G' H' w') (ht : TV w' (MM Mx G' H') H'.length G' tmps a) (hp : 3 ≤ H'.length) (h : RetK l Q a H') :
    ∃ v, (results Tryd.f20 tmps).run Tryd.prog w' = .ok v w' ∧ ∃ out H2 G2, Step 1 Mx G [rowB l] w G2 H2 w' ∧ Sim Mx G2 H2 w' ∧ ER w' (MM Mx G2 H2) H2.length G2 (.returned v) out ∧ H2 = [rowB l] ∧ Q out := by
  obtain ⟨cs, e0, hagc, ⟨m, hm⟩, hQ⟩ := h
  have hlen3 : 3 < a.length := by
    rcases Nat.lt_or_ge 3 a.length with h | h
    · exact h
    · have e3 : a.getD 3 .any = .any := by rw [List.getD_eq_getElem?_getD, List.getElem?_eq_none h]; rfl
      rw [e3] at hagc
      have := agc_any2k (a.getD 2 .any) H'
      rw [hagc] at this
      simp at this
  have g2 : a[2]? = some (a.getD 2 .any) := by rw [List.getD_eq_getElem?_getD, List.getElem?_eq_getElem (by omega)]; rfl
  have g3 : a[3]? = some (a.getD 3 .any) := by rw [List.getD_eq_getElem?_getD, List.getElem?_eq_getElem (by omega)]; rfl
  have hsz := ht.1
  have t2 : tmps[2]? = some tmps[2] := Array.getElem?_eq_getElem (by omega)
  have t3 : tmps[3]? = some tmps[3] := Array.getElem?_eq_getElem (by omega)
  have htv2 : TV w' (MM Mx G' H') H'.length G' #[tmps[2], tmps[3]] [a.getD 2 .any, a.getD 3 .any] := ⟨rfl, fun i v x e1 e2 => by
    match i, e1, e2 with
    | 0, e1, e2 => cases e1; cases e2; exact ht.2 2 _ _ t2 g2
    | 1, e1, e2 => cases e1; cases e2; exact ht.2 3 _ _ t3 g3
    | i + 2, e1, e2 => simp at e2⟩
  obtain ⟨G2, k1, k2, k3, k4⟩ := agc_sound [0, 1] hp hsim htv2
  rw [hagc] at k1 k2 k3 k4
  dsimp only at k1 k2 k3 k4
  -- the results
  let a' : List AV := (List.range tmps.size).map fun i => if i = 2 then .ptr 1 0 else if i = 3 then .ptr 2 0 else .any
  have htv : TV w' (MM Mx G2 [rowB l, .var cs, .var [.int .i64 e0]]) 3 G2 tmps a' := ⟨by simp [a'], fun i v x e1 e2 => by
    simp only [a', List.getElem?_map, Option.map_eq_some_iff] at e2
    obtain ⟨j, hj, rfl⟩ := e2
    have hij := (List.getElem?_eq_some_iff.1 hj).2
    rw [List.getElem_range] at hij
    subst hij
    by_cases h2 : i = 2
    · subst h2
      rw [t2] at e1
      cases e1
      exact k2.2 0 _ _ rfl rfl
    · by_cases h3 : i = 3
      · subst h3
        rw [t3] at e1
        cases e1
        exact k2.2 1 _ _ rfl rfl
      · rw [if_neg h2, if_neg h3]; exact .any ..⟩
  have hcl : cs.length = 23 := by have := congrArg List.length hm; simpa [msC] using this
  have a2 : a'.getD 2 .any = .ptr 1 0 := by
    simp only [a', List.getD_eq_getElem?_getD, List.getElem?_map]
    rw [List.getElem?_range (by omega)]
    rfl
  have a3 : a'.getD 3 .any = .ptr 2 0 := by
    simp only [a', List.getD_eq_getElem?_getD, List.getElem?_map]
    rw [List.getElem?_range (by omega)]
    rfl
  have hres : aresults Tryd.prog a' [rowB l, .var cs, .var [.int .i64 e0]] Tryd.f20.results.toList = some [.agg cs, .int .i64 e0] := by
    rw [res20]
    simp only [aresults, a2, a3, cellsAt, ty33, ty35, List.getElem?_cons_zero, List.getElem?_cons_succ, List.drop_zero]
    rw [if_pos (by omega), List.take_of_length_le (by omega)]
  obtain ⟨us, r1, r2, r3⟩ := aresults_sound (P := Tryd.prog) k1 htv Tryd.f20.results.toList _ hres
  match us, r2 with
  | [u0, u1], _ =>
    obtain ⟨G3, s1, _, s3, _⟩ := agc_sound (pin := 1) (H := [rowB l, .var cs, .var [.int .i64 e0]]) (t := #[]) (a := []) [] (by decide : 1 ≤ 3) k1 ⟨rfl, fun i v x e1 _ => by simp at e1⟩
    have hag : (agc 1 [] [] [rowB l, .var cs, .var [.int .i64 e0]]).2 = [rowB l] := by kernel_rfl
    rw [hag] at s1 s3
    refine ⟨.tuple #[u0, u1], ?_, .ret (.tuple [.agg (cs.map unz), .int .i64 e0]), [rowB l], G3, (hst.trans (by omega) k3).trans (Nat.le_refl _) s3, s1, ?_, rfl, hQ⟩
    · have hm : (Tryd.f20.results.mapM (m := Sem) fun | .tmp t => pure (tmps.getD t undef) | .cell a t => do loadVar t (← asAddr (tmps.getD a undef))).run Tryd.prog w' = .ok #[u0, u1] w' := by
        rw [← Array.toArray_toList (xs := Tryd.f20.results), List.mapM_toArray, Sem.run_map]
        exact congrArg (fun r => Result.andThen r fun a w' => .ok a.toArray w') r1
      refine (Sem.run_bind (P := Tryd.prog) (w := w') (x := Tryd.f20.results.mapM (m := Sem) fun | .tmp t => pure (tmps.getD t undef) | .cell a t => do loadVar t (← asAddr (tmps.getD a undef))) (f := fun vs => pure (if h : vs.size = 1 then vs[0] else .tuple vs))).trans ?_
      rw [hm]
      rfl
    · have hc : ∀ k i v, w'.cell? ⟨k, i, none⟩ = some v → ¬ MM Mx G2 [rowB l, .var cs, .var [.int .i64 e0]] k i → w'.cell? ⟨k, i, none⟩ = some v ∧ ¬ MM Mx G3 [rowB l] k i := fun k i v g1 g2 => s3.still k i v g1 g2
      have q0 := r3 0 u0 (.agg cs) rfl rfl
      have q1 := (r3 1 u1 (.int .i64 e0) rfl rfl).int_inv
      subst q1
      refine .ret _ _ (.tuple _ _ _ _ rfl fun i v x e1 e2 => ?_)
      match i, e1, e2 with
      | 0, e1, e2 =>
        cases e1; cases e2
        obtain ⟨vs, rfl, hvl, hvc⟩ := q0.agg_inv
        refine .agg _ _ _ _ (by rw [List.length_map]; exact hvl) fun j v y e1 e2 => ?_
        rw [List.getElem?_map, Option.map_eq_some_iff] at e2
        obtain ⟨x, hx, rfl⟩ := e2
        refine rv_unz hc (hvc j v x e1 hx) (msC_plain m (unz x) ?_)
        rw [← hm]
        exact List.mem_map_of_mem (List.mem_of_getElem? hx)
      | 1, e1, e2 => cases e1; cases e2; exact .int ..
      | i + 2, e1, e2 => simp at e2



set_option maxRecDepth 100000 in
set_option maxHeartbeats 4000000 in
theorem deck_FOK {T : Tab} (hT : TGood Tryd.prog T) (l : List Int) (hl : OkL l) (Q : AOut → Prop) (hQ : Q (.ret (.tuple [.agg (msC (decM l).1), .int .i64 (decM l).2]))) :
    FOK Tryd.prog 20 [.row 0] [rowB l] fun out Hs => Hs = [rowB l] ∧ Q out := by
  have hT2 : TGood Tryd.prog (TdecK T) := by
    have h1 := ext_good hT (s45 hT)
    have h2 := ext_good h1 (s47 h1)
    have h3 := ext_good h2 (s59k h2)
    exact ext_good h3 (s60k h3)
  refine ⟨entersOf Tryd.func20 (by kernel_rfl) rfl, fun Mx G w cargs hs ht => ?_⟩
  refine calls_of_wp_defers Tryd.func20 body20 ?_
  have hn : Tryd.f20.ntmps = 45 := rfl
  have htv : TV w (MM Mx G [rowB l]) 1 G (cargs ++ Array.replicate (Tryd.f20.ntmps - cargs.size) undef) ([.row 0] ++ List.replicate 44 (.tuple [])) := by
    have hc1 : cargs.size = 1 := ht.1
    refine ⟨by simp [hc1], fun i v x h1 h2 => ?_⟩
    by_cases hi : i < 1
    · rw [List.getElem?_append_left (by simpa using hi)] at h2
      rw [Array.getElem?_append_left (by omega)] at h1
      exact ht.2 i v x h1 h2
    · rw [List.getElem?_append_right (by simp; omega)] at h2
      rw [Array.getElem?_append_right (by omega)] at h1
      have e1 := (List.mem_replicate.1 (List.mem_of_getElem? h2)).2
      have e2 : v = undef := by
        have := Array.mem_of_getElem? h1
        exact (Array.mem_replicate.1 this).2
      subst e1; subst e2
      exact .tuple _ _ _ _ rfl (fun i v x h => by simp at h)
  refine wp_seq ?_
  refine acode_sound hT.ok hT.ang hT.mono mixedT 1 0 _ leD (K0k l) _ _ (d0k_ok l T 0) Mx G w _ (Nat.le_refl _) hs htv _ (fun e e' a' H' G' w' act' g1 g2 g3 g4 g5 g6 => ?_)
  obtain ⟨e1, e2, e3⟩ := g6
  subst e1 e2 e3
  cases g5
  have g4' : act'.defers = [] := g4
  refine wp_seq ?_
  refine acode_sound hT.ok hT.ang hT.mono mixedT 3 0 _ leD (K1k l Q) _ _ (d1k_ok l T 0 Q hQ) Mx G' w' act' (by simp [H0k]) g2 g3 _ (fun e e' a2 H2 G2 w2 act2 m1 m2 m3 m4 m5 m6 => ?_)
  have m4' : act2.defers = [] := m4.trans g4'
  have st2 : Step 1 Mx G [rowB l] w G2 H2 w2 := g1.trans (Nat.succ_le_succ (Nat.zero_le _)) m1
  rcases m6 with ⟨e1, e2, e3, hbig⟩ | ⟨e1, hret⟩
  · subst e1 e2 e3
    cases m5
    obtain ⟨id, o1, o2, hr3, p1, p2, p3, q1, q2, q3⟩ := reg20
    rw [hr3]
    refine wp_seq (wp_region ?_)
    have hsz : act2.tmps.size = 45 := m3.1
    have hlt : 12 < act2.tmps.size := by omega
    simp [wpOps, Oper.wp, Oper.upon, go_sem, execOp, Act.put, Act.eval, Region.wanted, Deferred.ofValue, p1, p2, p3, q1, q2, q3, hlt, Sem.run_pure]
    refine .inl (.inl ?_)
    have t2 : act2.tmps[2]? = some act2.tmps[2] := Array.getElem?_eq_getElem (by omega)
    have t3 : act2.tmps[3]? = some act2.tmps[3] := Array.getElem?_eq_getElem (by omega)
    rw [t2, t3]
    simp only [Option.getD_some]
    have hv2 := m3.2 2 _ (.ptr 1 0) t2 rfl
    have hv3 := m3.2 3 _ (.ptr 2 0) t3 rfl
    generalize act2.tmps[2] = v2 at t2 hv2 ⊢
    generalize act2.tmps[3] = v3 at t3 hv3 ⊢
    have htA : TV w2 (MM Mx G2 (H0k l)) (H0k l).length G2 (act2.tmps.setIfInBounds 12 (.func (.func 58) #[] #[v2, v3])) (A2k l) := by
      refine ⟨by rw [Array.size_setIfInBounds]; exact hsz, fun i v x e1 e2 => ?_⟩
      by_cases hi : i = 12
      · subst hi
        rw [Array.getElem?_setIfInBounds_self_of_lt hlt] at e1
        cases e1; cases e2
        refine .func _ _ _ _ _ _ _ rfl rfl (fun i v x e => by simp at e) fun i v x e1 e2 => ?_
        match i, e1, e2 with
        | 0, e1, e2 => cases e1; cases e2; exact hv2
        | 1, e1, e2 => cases e1; cases e2; exact hv3
        | i + 2, e1, e2 => simp at e2
      · rw [Array.getElem?_setIfInBounds_ne (by omega)] at e1
        refine m3.2 i v x e1 ?_
        have e12 : (A2k l) = (A1k l).set 12 (.func (.func 58) [] [.ptr 1 0, .ptr 2 0]) := rfl
        rw [e12, List.getElem?_set_ne (by omega)] at e2
        exact e2
    refine acode_sound hT2.ok hT2.ang hT2.mono mixedT 3 16 _ leD (K3k l Q) _ _ (d3k_ok l hl hbig T Q hQ 16 (by omega)) Mx G2 w2 _ (by simp [H0k]) m2 htA _ (fun e e' a3 H3 G3 w3 act3 r1 r2 r3 r4 r5 r6 => ?_)
    dsimp only at r4
    rw [m4'] at r4
    have st3 : Step 1 Mx G [rowB l] w G3 H3 w3 := st2.trans (Nat.succ_le_succ (Nat.zero_le _)) r1
    have hinv : ∀ w, (invoke (.fn (.func 58) #[v2, v3]) #[]).run Tryd.prog w = .ok (.enter 58 #[v2, v3]) w := fun w => by
      simp only [invoke]
      exact entersOf Tryd.func58 (by kernel_rfl) rfl (#[] ++ #[v2, v3]) w
    have hfine : RetK l Q a3 H3 → bodyPostD Tryd.prog Tryd.f20 (fun e w' => ∃ out H' G', Step 1 Mx G [rowB l] w G' H' w' ∧ Sim Mx G' H' w' ∧ ER w' (MM Mx G' H') H'.length G' e out ∧ H' = [rowB l] ∧ Q out) .normal act3 w3 := fun hret => by
      obtain ⟨v, hr, hR⟩ := deck_fin hs st3 r2 r3 r1.len.2 hret
      show Leaves Tryd.prog Tryd.f20 act3.tmps _ act3.defers .returning w3
      rw [r4]
      refine leaves_cons (by simp) (hinv w3) (callsD58i.mono fun e u' w' he => ?_)
      obtain ⟨⟨rr, rfl⟩, rfl, rfl⟩ := he
      exact ⟨v, hr, hR⟩
    cases r5 with
    | normal => exact hfine r6
    | ret => exact hfine r6
    | exit id => exact r6.elim
    | pan v x hx =>
      obtain ⟨cs, m, hag, hcs, hQ51⟩ := r6
      have hlen3 : 3 < a3.length := by
        rcases Nat.lt_or_ge 3 a3.length with h | h
        · exact h
        · have e3 : a3.getD 3 .any = .any := by rw [List.getD_eq_getElem?_getD, List.getElem?_eq_none h]; rfl
          rw [e3] at hag
          have := congrArg (fun p => p.1[2]?) hag
          simp [agc, keepOnly, renL, ren] at this
      have hsz3 := r3.1
      have u2 : act3.tmps[2]? = some act3.tmps[2] := Array.getElem?_eq_getElem (by omega)
      have u3 : act3.tmps[3]? = some act3.tmps[3] := Array.getElem?_eq_getElem (by omega)
      have g2 : a3[2]? = some (a3.getD 2 .any) := by rw [List.getD_eq_getElem?_getD, List.getElem?_eq_getElem (by omega)]; rfl
      have g3 : a3[3]? = some (a3.getD 3 .any) := by rw [List.getD_eq_getElem?_getD, List.getElem?_eq_getElem (by omega)]; rfl
      have htv3 : TV w3 (MM Mx G3 H3) H3.length G3 #[v, act3.tmps[2], act3.tmps[3]] [x, a3.getD 2 .any, a3.getD 3 .any] := ⟨rfl, fun i v x e1 e2 => by
        match i, e1, e2 with
        | 0, e1, e2 => cases e1; cases e2; exact hx
        | 1, e1, e2 => cases e1; cases e2; exact r3.2 2 _ _ u2 g2
        | 2, e1, e2 => cases e1; cases e2; exact r3.2 3 _ _ u3 g3
        | i + 3, e1, e2 => simp at e2⟩
      obtain ⟨G4, k1, k2, k3, k4⟩ := agc_sound [0, 1, 2] r1.len.2 r2 htv3
      rw [hag] at k1 k2 k3 k4
      dsimp only at k1 k2 k3 k4
      have hcl : cs.length = 23 := by have := congrArg List.length hcs; simpa [msC] using this
      obtain ⟨n1, n2⟩ := k1.revar (b := 1) (cs := cs) (cs' := msC m) rfl (by rw [← hcs, List.length_map]) (fun i v x y e1 e2 h1 h2 => by
        rw [← hcs, List.getElem?_map, e1] at e2
        cases e2
        refine rv_unz (fun k i v q1 q2 => ⟨q1, q2⟩) h2 (msC_plain m _ ?_)
        rw [← hcs]
        exact List.mem_map_of_mem (List.mem_of_getElem? e1))
      have n2' : Step 3 Mx G4 [rowB l, .var cs, .var [.int .i64 0]] w3 G4 [rowB l, .var (msC m), .var [.int .i64 0]] w3 := n2
      have s23 : Step 3 Mx G2 (H0k l) w2 G4 [rowB l, .var (msC m), .var [.int .i64 0]] w3 := (r1.trans (Nat.le_refl _) k3).trans (Nat.le_refl _) n2'
      have st4 : Step 1 Mx G [rowB l] w G4 [rowB l, .var (msC m), .var [.int .i64 0]] w3 := st2.trans (Nat.succ_le_succ (Nat.zero_le _)) s23
      have s23' : Step (H0k l).length Mx G2 (H0k l) w2 G4 [rowB l, .var (msC m), .var [.int .i64 0]] w3 := s23
      have hc2 := s23'.rv hv2
      have hc3 := s23'.rv hv3
      have hk : TV w3 (MM Mx G4 [rowB l, .var (msC m), .var [.int .i64 0]]) 3 G4 #[v, act3.tmps[2], act3.tmps[3]] [eM, .ptr 1 0, .ptr 2 0] := Step.tv (H := [rowB l, .var cs, .var [.int .i64 0]]) n2' k2
      show Leaves Tryd.prog Tryd.f20 act3.tmps _ act3.defers (.panicking [{ v, recovered := false }]) w3
      rw [r4]
      refine leaves_cons (by simp) (hinv w3) ((callsD58k n1 hc2 hc3 (hk.2 0 _ _ rfl rfl)).mono fun e u' w' he => ?_)
      obtain ⟨⟨rr, rfl⟩, hu, G5, z1, z2⟩ := he
      dsimp only
      rw [hu]
      have hz := Step.tv (H := [rowB l, .var (msC m), .var [.int .i64 0]]) z1 hk
      have hfin := deck_fin (tmps := act3.tmps) (a := (List.range act3.tmps.size).map fun i => if i = 2 then .ptr 1 0 else if i = 3 then .ptr 2 0 else .any) (Q := Q) hs (st4.trans (Nat.succ_le_succ (Nat.zero_le _)) z1) z2 ?_ (Nat.le_refl _) ⟨zC, 51, ?_, ⟨zM, rfl⟩, hQ51⟩
      · obtain ⟨v, hr, hR⟩ := hfin
        exact ⟨v, hr, hR⟩
      · refine ⟨by simp, fun i v x e1 e2 => ?_⟩
        simp only [List.getElem?_map, Option.map_eq_some_iff] at e2
        obtain ⟨j, hj, rfl⟩ := e2
        have hij := (List.getElem?_eq_some_iff.1 hj).2
        rw [List.getElem_range] at hij
        subst hij
        by_cases h2 : i = 2
        · subst h2
          rw [u2] at e1
          cases e1
          exact hz.2 1 _ _ rfl rfl
        · by_cases h3 : i = 3
          · subst h3
            rw [u3] at e1
            cases e1
            exact hz.2 2 _ _ rfl rfl
          · rw [if_neg h2, if_neg h3]; exact .any ..
      · have e2 : ((List.range act3.tmps.size).map fun i => if i = 2 then AV.ptr 1 0 else if i = 3 then .ptr 2 0 else .any).getD 2 .any = .ptr 1 0 := by
          simp only [List.getD_eq_getElem?_getD, List.getElem?_map]
          rw [List.getElem?_range (by omega)]
          rfl
        have e3 : ((List.range act3.tmps.size).map fun i => if i = 2 then AV.ptr 1 0 else if i = 3 then .ptr 2 0 else .any).getD 3 .any = .ptr 2 0 := by
          simp only [List.getD_eq_getElem?_getD, List.getElem?_map]
          rw [List.getElem?_range (by omega)]
          rfl
        rw [e2, e3]
        show agc 3 [0, 1] [.ptr 1 0, .ptr 2 0] [rowB l, .var zC, .var [.int .i64 51]] = ([.ptr 1 0, .ptr 2 0], [rowB l, .var zC, .var [.int .i64 51]])
        kernel_rfl
  · subst e1
    cases m5
    obtain ⟨v, hr, hR⟩ := deck_fin hs st2 m2 m3 m1.len.2 hret
    show Leaves Tryd.prog Tryd.f20 act2.tmps _ act2.defers .returning w2
    rw [m4']
    exact ⟨v, hr, hR⟩



def decKT : Spec := fun args H Q => match args with
  | [.row q] => match H[q]? with
    | some (.row wr e sz es) => cond (wr && (Nat.beq e 5 && Nat.beq sz 1)) (∃ l, es = bsA l ∧ OkL l ∧ Q (.ret (.tuple [.agg (msC (decM l).1), .int .i64 (decM l).2])) H) False
    | _ => False
  | _ => False
theorem decKT_inv {args : List AV} {H : Heap} {Q : AOut → Heap → Prop} (h : decKT args H Q) : ∃ q l, args = [.row q] ∧ H[q]? = some (rowB l) ∧ OkL l ∧ Q (.ret (.tuple [.agg (msC (decM l).1), .int .i64 (decM l).2])) H := by
  unfold decKT at h
  split at h
  case h_2 => exact h.elim
  split at h
  case h_2 => exact h.elim
  rename_i hq
  obtain ⟨rfl, rfl, rfl, l, rfl, hl, h2⟩ := condK h
  exact ⟨_, l, rfl, hq, hl, h2⟩
theorem decKT_mk {q : Nat} {l : List Int} {H : Heap} {Q : AOut → Heap → Prop} (hq : H[q]? = some (rowB l)) (hl : OkL l) (h : Q (.ret (.tuple [.agg (msC (decM l).1), .int .i64 (decM l).2])) H) : decKT [.row q] H Q := by
  unfold decKT
  simp only [hq, rowB]
  exact ⟨l, rfl, hl, h⟩
theorem s20k {T : Tab} (hT : TGood Tryd.prog T) : SGood Tryd.prog 20 decKT where
  ok := fun args H Q hg => by
    obtain ⟨q, l, rfl, hq, hl, hQ⟩ := decKT_inv hg
    have hql : q < H.length := (List.getElem?_eq_some_iff.1 hq).1
    have i0 : ([q] : List Nat).idxOf? q = some 0 := by simp [List.idxOf?, List.findIdx?_cons]
    refine sub_call (ids := [q]) (by simp) (fun x hx => by simp at hx; subst hx; exact hql) ?_
    have e1 : renL (([q] : List Nat).idxOf? ·) [.row q] = [.row 0] := by simp only [renL, ren, i0]
    have e2 : subH H [q] = [rowB l] := by
      simp only [subH, List.map_cons, List.map_nil, List.getD_eq_getElem?_getD, hq, Option.getD_some, rowB, renH]
    rw [e1, e2]
    have hm : mergeH H [q] [rowB l] = H := by
      unfold mergeH
      simp only [List.length_cons, List.length_nil, Nat.zero_add, List.drop_succ_cons, List.drop_nil, List.map_nil, List.append_nil]
      refine List.ext_getElem? fun i => ?_
      rw [List.getElem?_map, List.getElem?_zipIdx]
      by_cases hib : i = q
      · subst hib
        rw [hq]
        simp only [Option.map_some, Nat.zero_add, i0, List.getD_cons_zero, rowB, renH]
      · cases hi : H[i]? with
        | none => rfl
        | some o => simp [show ¬ q = i from fun e => hib e.symm]
    refine (deck_FOK hT l hl (fun out => out = .ret (.tuple [.agg (msC (decM l).1), .int .i64 (decM l).2])) rfl).imp fun out Hs ⟨h1, h2⟩ => ?_
    subst h1; subst h2
    rw [hm]
    simp only [outR, ren, renL, renL_closed _ _ (msC_closed _)]
    exact hQ
  ang := fun args H K hg => by
    obtain ⟨q, l, rfl, hq, hl, hQ⟩ := decKT_inv hg
    exact ⟨_, _, decKT_mk hq hl ⟨rfl, rfl⟩, hQ⟩
  mono := fun args H K K' hk hg => by
    obtain ⟨q, l, rfl, hq, hl, hQ⟩ := decKT_inv hg
    exact decKT_mk hq hl (hk _ _ hQ)

end Go.Abs

