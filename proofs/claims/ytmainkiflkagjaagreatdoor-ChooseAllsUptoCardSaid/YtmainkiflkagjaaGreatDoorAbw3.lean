/-
An abstract machine over values as trees: what slices read as, freezing, rows given up and moved.
-/
import Derived.Test.YtmainkiflkagjaaGreatDoorAbw2
namespace Go.Abs
open Go
variable {P : Program} {o : Oper} {a : List AV} {H : Heap} {K E : AV → Heap → Prop}

/-- A slice's elements lie in the world. -/
def SliceAt (w : World) (M : Mut) (v : Value) (es : List (List AV)) : Prop :=
  ∃ A cap, v = .slice A es.length cap ∧ es.length ≤ cap ∧ (es ≠ [] → ∃ k off sz, A = some ⟨k, off, none⟩ ∧ (∀ (i : Nat) el, es[i]? = some el → el.length = sz) ∧
    ∀ (i : Nat) el (j : Nat) x, es[i]? = some el → el[j]? = some x → ∃ u, w.cell? ⟨k, off + i * sz + j, none⟩ = some u ∧ u.oneCell' = true ∧ RV w M 0 G0 u x)

theorem row_idx {i j n m sz : Nat} (hi : i < n) (hj : j < sz) (hn : n ≤ m) : i * sz + j < n * sz ∧ i * sz + j < m * sz := by
  have h1 : (i + 1) * sz ≤ n * sz := Nat.mul_le_mul_right _ (by omega)
  have h2 : n * sz ≤ m * sz := Nat.mul_le_mul_right _ hn
  rw [Nat.add_mul] at h1
  omega

theorem elems_sound {Mx : Mut} {G : Gh} {w : World} (hs : Sim Mx G H w) {v : Value} {x : AV} (hx : RV w (MM Mx G H) H.length G v x) {es : List (List AV)} (he : elems H x = some es) :
    SliceAt w (MM Mx G H) v es := by
  cases x with
  | zslice =>
    simp only [elems, Option.some.injEq] at he
    subst he
    obtain ⟨A, rfl⟩ := hx.zslice_inv
    exact ⟨A, 0, rfl, by simp, fun h => absurd rfl h⟩
  | slice es' =>
    simp only [elems, Option.some.injEq] at he
    subst he
    cases hx with
    | slice0 _ _ A cap => exact ⟨A, cap, rfl, by simp, fun h => absurd rfl h⟩
    | slice _ _ k off cap sz _ f hsz hc hr hcap =>
      exact ⟨_, cap, rfl, hcap, fun _ => ⟨k, off, sz, rfl, hsz, fun i el j x h1 h2 => ⟨f i j, (hc i el j x h1 h2).1, (hc i el j x h1 h2).2.2, hr i el j x h1 h2⟩⟩⟩
  | row b =>
    simp only [elems] at he
    split at he
    · rename_i wr e sz es' hH
      simp only [Option.some.injEq] at he
      subst he
      obtain ⟨h0, hle, hrow⟩ := hs.obj b _ hH
      rcases hrow with ⟨rfl, A, hG⟩ | ⟨g, cap, cur, hG, hk, h1, h2, h3, h4, h5⟩
      · rw [hx.row_inv hG]
        exact ⟨A, 0, rfl, by simp, fun h => absurd rfl h⟩
      · rw [hx.row_inv hG]
        refine ⟨_, cap, rfl, h1, fun _ => ⟨g, 0, sz, rfl, hle, fun i el j x e1 e2 => ?_⟩⟩
        have hi := (List.getElem?_eq_some_iff.1 e1).1
        have hj : j < sz := by rw [← hle i el e1]; exact (List.getElem?_eq_some_iff.1 e2).1
        obtain ⟨hlt1, hlt2⟩ := row_idx hi hj h1
        have hlt : i * sz + j < cur.size := by rw [h3]; exact hlt2
        refine ⟨cur[i * sz + j], ?_, h4 _ _ (Array.getElem?_eq_getElem hlt) hlt1, h5 i el j x _ e1 e2 (Array.getElem?_eq_getElem hlt)⟩
        rw [cell_of hk, Nat.zero_add, Array.getElem?_eq_getElem hlt]
    · cases he
  | srow b off n =>
    simp only [elems] at he
    split at he
    · rename_i wr e sz es' hH
      simp only [Option.some.injEq] at he
      subst he
      obtain ⟨h0, hle, hrow⟩ := hs.obj b _ hH
      have hlen : ∀ len, off + n ≤ len → es'.length = len → ((es'.drop off).take n).length = n := by intro len h1 h2; simp; omega
      rcases hrow with ⟨rfl, A, hG⟩ | ⟨g, cap, cur, hG, hk, h1, h2, h3, h4, h5⟩
      · obtain ⟨A', cap', rfl, hl, _, _⟩ := hx.srow_inv hG
        have hn : n = 0 := by omega
        subst hn
        exact ⟨A', cap', by simp, by simp, fun h => absurd (by simp) h⟩
      · obtain ⟨A', cap', rfl, hl, hcp, hA⟩ := hx.srow_inv hG
        refine ⟨A', cap', by rw [hlen _ hl rfl], by rw [hlen _ hl rfl]; exact hcp, fun hne => ?_⟩
        have hn : 0 < n := by
          rcases Nat.eq_zero_or_pos n with rfl | h
          · exact absurd (by simp) hne
          · exact h
        have hA' := hA hn
        simp only [Option.map_some, Addr.add_lit, Nat.zero_add] at hA'
        refine ⟨g, off * sz, sz, hA', fun i el e1 => ?_, fun i el j x e1 e2 => ?_⟩
        · have hi : i < n := by have := (List.getElem?_eq_some_iff.1 e1).1; simp at this; omega
          rw [List.getElem?_take_of_lt hi, List.getElem?_drop] at e1
          exact hle _ el e1
        · have hi : i < n := by have := (List.getElem?_eq_some_iff.1 e1).1; simp at this; omega
          rw [List.getElem?_take_of_lt hi, List.getElem?_drop] at e1
          have hi' := (List.getElem?_eq_some_iff.1 e1).1
          have hj : j < sz := by rw [← hle _ el e1]; exact (List.getElem?_eq_some_iff.1 e2).1
          obtain ⟨hlt1, hlt2⟩ := row_idx hi' hj h1
          have hlt : (off + i) * sz + j < cur.size := by rw [h3]; exact hlt2
          refine ⟨cur[(off + i) * sz + j], ?_, h4 _ _ (Array.getElem?_eq_getElem hlt) hlt1, h5 _ el j x _ e1 e2 (Array.getElem?_eq_getElem hlt)⟩
          rw [cell_of hk, ← Nat.add_mul, Array.getElem?_eq_getElem hlt]
    · cases he
  | _ => simp [elems] at he

theorem opS_lenSlice {t : TypeId} {e : TypeId} {x : Operand} {ats : Array TypeId} {es : List (List AV)} (ho : o.op = .call { callee := .builtin .len, args := #[x], argTypes := ats }) (hat : ats[0]? = some t)
    (ht : P.underlying t = some (.slice e)) (hx : elems H (aeval a x) = some es) (h : K (.int .i64 es.length) H) : OpS P o a H K E :=
  opS_same h fun Mx G w act hs htv => by
    obtain ⟨A, cap, hv, _, _⟩ := elems_sound hs (ev htv x) hx
    refine ⟨.int .i64 es.length, ?_, .int ..⟩
    simp [execOp, ho, resolve, invoke, builtin, Builtin.len_, hat, run_underlying ht, hv, goInt]

/-! ### Freezing -/
theorem frz_sound {Mx : Mut} {G : Gh} {w : World} (hs : Sim Mx G H w) {v : Value} {x : AV} (hx : RV w (MM Mx G H) H.length G v x) :
    Sim Mx G (frz H x).2 w ∧ Step H.length Mx G H w G (frz H x).2 w ∧ (frz H x).2.length = H.length ∧ RV w (MM Mx G (frz H x).2) 0 G0 v (frz H x).1 := by
  have same : ∀ y, frz H x = (y, H) → RV w (MM Mx G H) 0 G0 v y → Sim Mx G (frz H x).2 w ∧ Step H.length Mx G H w G (frz H x).2 w ∧ (frz H x).2.length = H.length ∧ RV w (MM Mx G (frz H x).2) 0 G0 v (frz H x).1 := by
    intro y hy hr
    rw [hy]
    exact ⟨hs, Step.refl, rfl, hr⟩
  have frow : ∀ b wr e sz es es' , H[b]? = some (.row wr e sz es) → frz H x = (.slice es', H.set b (.row false e sz es)) → SliceAt w (MM Mx G H) v es' →
      (es' ≠ [] → ∃ g cap cur off m, G b = some (.row (.slice (some ⟨g, 0, none⟩) es.length cap) sz true) ∧ w.heap[g]? = some (.cells cur e (0, 0)) ∧ es' = (es.drop off).take m ∧ off + m ≤ es.length ∧ (∃ cp, v = .slice (some ⟨g, off * sz, none⟩) es'.length cp) ∧ (∀ (i : Nat) el, es[i]? = some el → el.length = sz)) →
      Sim Mx G (frz H x).2 w ∧ Step H.length Mx G H w G (frz H x).2 w ∧ (frz H x).2.length = H.length ∧ RV w (MM Mx G (frz H x).2) 0 G0 v (frz H x).1 := by
    intro b wr e sz es es' hH hy hsl hloc
    rw [hy]
    obtain ⟨h1, h2⟩ := hs.freeze hH
    refine ⟨h1, h2, by simp, ?_⟩
    obtain ⟨A, cap, hv, hcapp, hcells⟩ := hsl
    by_cases hne : es' = []
    · subst hne
      rw [hv]
      exact .slice0 ..
    · obtain ⟨k, off, sz', hA, hsz, hc⟩ := hcells hne
      obtain ⟨g, cap', cur, off', m, hG, hk, hes, hle, ⟨cp, hv2⟩, hall⟩ := hloc hne
      rw [hv] at hv2
      injection hv2 with hv2 _ _
      rw [hA] at hv2
      injection hv2 with hv2
      injection hv2 with e1 e2 _
      subst e1; subst e2
      have hszeq : ∀ (i : Nat) el, es'[i]? = some el → el.length = sz := by
        intro i el hi
        rw [hes] at hi
        have hi' : i < m := by have := (List.getElem?_eq_some_iff.1 hi).1; simp at this; omega
        rw [List.getElem?_take_of_lt hi', List.getElem?_drop] at hi
        exact hall _ _ hi
      have hszz : sz' = sz := by
        cases hes0 : es'[0]? with
        | none => rw [List.getElem?_eq_none_iff] at hes0; exact absurd (List.eq_nil_of_length_eq_zero (by omega)) hne
        | some el => rw [← hsz 0 el hes0, hszeq 0 el hes0]
      subst hszz
      rw [hv, hA]
      have hfun : ∀ i j, ∃ u, (∀ el x, es'[i]? = some el → el[j]? = some x → w.cell? ⟨k, off' * sz' + i * sz' + j, none⟩ = some u ∧ u.oneCell' = true ∧ RV w (MM Mx G H) 0 G0 u x) := by
        intro i j
        cases h : (es'[i]?).bind (·[j]?) with
        | none => exact ⟨undef, fun el x h1 h2 => by rw [h1] at h; simp [h2] at h⟩
        | some x =>
          simp only [Option.bind_eq_some_iff] at h
          obtain ⟨el, h1, h2⟩ := h
          obtain ⟨u, hu⟩ := hc i el j x h1 h2
          refine ⟨u, fun el' x' h1' h2' => ?_⟩
          rw [h1] at h1'; cases h1'
          rw [h2] at h2'; cases h2'
          exact hu
      refine .slice _ _ k _ cap sz' es' (fun i j => (hfun i j).choose) hsz (fun i el j x e1 e2 => ?_) (fun i el j x e1 e2 => ?_) hcapp
      · obtain ⟨c1, c2, c3⟩ := (hfun i j).choose_spec el x e1 e2
        refine ⟨c1, ?_, c2⟩
        have hi' : i < m := by rw [hes] at e1; have := (List.getElem?_eq_some_iff.1 e1).1; simp at this; omega
        have hj : j < sz' := by rw [← hszeq i el e1]; exact (List.getElem?_eq_some_iff.1 e2).1
        obtain ⟨hlt1, _⟩ := row_idx (i := off' + i) (n := es.length) (m := es.length) (by omega) hj (Nat.le_refl _)
        rw [← Nat.add_mul]
        rintro (hx' | ⟨b1, l1, o1, hg1, hH1, hbk, hmu⟩)
        · exact hs.ext b _ k _ hG rfl hx'
        · have hbb := hs.inj b1 b l1 _ k hg1 hG hbk rfl
          subst hbb
          rw [List.getElem?_set_self ((List.getElem?_eq_some_iff.1 hH).1)] at hH1
          cases hH1
          rcases hmu with hmu | hmu
          · cases hmu
          · omega
      · exact ((hfun i j).choose_spec el x e1 e2).2.2.mono (fun k i v g1 g2 => h2.still k i v g1 g2) (Nat.le_refl _) (fun _ _ _ h => h)
  cases x with
  | row b =>
    cases hH : H[b]? with
    | none => exact same .any (by simp [frz, hH]) (.any ..)
    | some ob =>
      cases ob with
      | row wr e sz es =>
        have hsl := elems_sound hs hx (es := es) (by simp [elems, hH])
        refine frow b wr e sz es es hH (by simp [frz, hH]) hsl (fun hne => ?_)
        obtain ⟨h0, hle, hrow⟩ := hs.obj b _ hH
        rcases hrow with ⟨rfl, A, hG⟩ | ⟨g, cap, cur, hG, hk, h1, h2, h3, h4, h5⟩
        · exact absurd rfl hne
        · exact ⟨g, cap, cur, 0, es.length, hG, hk, by simp, by omega, ⟨cap, by rw [hx.row_inv hG]; simp⟩, hle⟩
      | _ => exact same .any (by simp [frz, hH]) (.any ..)
  | srow b off n =>
    cases hH : H[b]? with
    | none => exact same .any (by simp [frz, hH]) (.any ..)
    | some ob =>
      cases ob with
      | row wr e sz es =>
        have hsl := elems_sound hs hx (es := (es.drop off).take n) (by simp [elems, hH])
        refine frow b wr e sz es _ hH (by simp [frz, hH]) hsl (fun hne => ?_)
        obtain ⟨h0, hle, hrow⟩ := hs.obj b _ hH
        rcases hrow with ⟨rfl, A, hG⟩ | ⟨g, cap, cur, hG, hk, h1, h2, h3, h4, h5⟩
        · exact absurd (by simp) hne
        · obtain ⟨A', cap', hv, hl, _, hA⟩ := hx.srow_inv hG
          have hn : 0 < n := by
            rcases Nat.eq_zero_or_pos n with rfl | h
            · exact absurd (by simp) hne
            · exact h
          have hA' := hA hn
          simp only [Option.map_some, Addr.add_lit, Nat.zero_add] at hA'
          exact ⟨g, cap, cur, off, n, hG, hk, rfl, hl, ⟨cap', by rw [hv, hA']; congr 1; simp; omega⟩, hle⟩
      | _ => exact same .any (by simp [frz, hH]) (.any ..)
  | zslice => obtain ⟨A, rfl⟩ := hx.zslice_inv; exact same (.slice []) rfl (.slice0 ..)
  | bool b => cases hx; exact same _ rfl (.bool ..)
  | int k n => cases hx; exact same _ rfl (.int ..)
  | str s => cases hx; exact same _ rfl (.str ..)
  | nilptr => cases hx; exact same _ rfl (.nilptr ..)
  | nilmap => cases hx; exact same _ rfl (.nilmap ..)
  | nilfunc => cases hx; exact same _ rfl (.nilfunc ..)
  | nilIface => cases hx; exact same _ rfl (.nilIface ..)
  | slice es =>
    cases hx with
    | slice0 _ _ A cap => exact same _ rfl (.slice0 ..)
    | slice _ _ k off cap sz _ f hsz hc hr hcap => exact same _ rfl (.slice _ _ k off cap sz es f hsz hc hr hcap)
  | eptr cs => cases hx with | eptr _ _ k off _ f hc hr => exact same _ rfl (.eptr _ _ k off cs f hc hr)
  | any => exact same .any rfl (.any ..)
  | ptr => exact same .any rfl (.any ..)
  | rptr => exact same .any rfl (.any ..)
  | vsl => exact same .any rfl (.any ..)
  | map => exact same .any rfl (.any ..)
  | func => exact same .any rfl (.any ..)
  | iface => exact same .any rfl (.any ..)
  | agg => exact same .any rfl (.any ..)
  | tuple => exact same .any rfl (.any ..)

/-- Cells, one behind the other. -/
theorem frzs_sound {Mx : Mut} {G : Gh} {w : World} : ∀ (xs : List AV) (H : Heap) (vs : List Value), Sim Mx G H w → vs.length = xs.length →
    (∀ (i : Nat) v x, vs[i]? = some v → xs[i]? = some x → RV w (MM Mx G H) H.length G v x) →
    Sim Mx G (frzs H xs).2 w ∧ Step H.length Mx G H w G (frzs H xs).2 w ∧ (frzs H xs).2.length = H.length ∧ (frzs H xs).1.length = xs.length ∧
      ∀ (i : Nat) v y, vs[i]? = some v → (frzs H xs).1[i]? = some y → RV w (MM Mx G (frzs H xs).2) 0 G0 v y
  | [], H, vs, hs, _, _ => ⟨hs, Step.refl, rfl, rfl, fun i v y _ h => by simp [frzs] at h⟩
  | x :: r, H, [], hs, hl, _ => by simp at hl
  | x :: r, H, v :: vs, hs, hl, hx => by
    obtain ⟨h1, h2, h3, h4⟩ := frz_sound hs (hx 0 v x rfl rfl)
    obtain ⟨k1, k2, k3, k4, k5⟩ := frzs_sound r (frz H x).2 vs h1 (by simpa using hl) (fun i u y e1 e2 => h2.rv (hx (i + 1) u y (by simpa using e1) (by simpa using e2)))
    refine ⟨k1, h2.trans (by omega) k2, by simp only [frzs]; omega, by simp only [frzs, List.length_cons]; omega, fun i u y e1 e2 => ?_⟩
    cases i with
    | zero =>
      simp only [frzs, List.getElem?_cons_zero, Option.some.injEq] at e1 e2
      subst e1; subst e2
      exact h4.mono (fun k i v g1 g2 => k2.still k i v g1 g2) (Nat.le_refl _) (fun _ _ _ h => h)
    | succ i =>
      simp only [frzs, List.getElem?_cons_succ] at e1 e2
      exact k5 i u y e1 e2

end Go.Abs

/-
An abstract machine over values as trees: rows are made, appended to, written; slices are cut.
-/
namespace Go.Abs
open Go
variable {P : Program} {o : Oper} {a : List AV} {H : Heap} {K E : AV → Heap → Prop}

/-- An object is written, and has another number behind that. -/
theorem Sim.regrow {Mx : Mut} {G : Gh} {H : Heap} {w w' : World} (hs : Sim Mx G H w) {b : Nat} {o o' : HO} {l l' : Loc} {kb : Nat} (hH : H[b]? = some o) (hG : G b = some l) (hkb : l.block = some kb) (hkb' : l'.block = some kb)
    (hos : w'.os = w.os) (htp : w'.tape = w.tape) (hout : w'.output = w.output) (hsz : w'.heap.size = w.heap.size)
    (hfar : ∀ k, k ≠ kb → w'.heap[k]? = w.heap[k]?) (hmut : ∀ i, o'.mut i → o.mut i)
    (hown : ∀ i v, w.cell? ⟨kb, i, none⟩ = some v → ¬ o.mut i → w'.cell? ⟨kb, i, none⟩ = some v)
    (ho : (∀ k i v, w.cell? ⟨k, i, none⟩ = some v → ¬ MM Mx G H k i → w'.cell? ⟨k, i, none⟩ = some v ∧ ¬ MM Mx (gput (gput G b none) H.length (some l')) (H.set b .dead ++ [o']) k i) →
      ObjR w' (MM Mx (gput (gput G b none) H.length (some l')) (H.set b .dead ++ [o'])) (H.length + 1) (gput (gput G b none) H.length (some l')) (some l') o') :
    Sim Mx (gput (gput G b none) H.length (some l')) (H.set b .dead ++ [o']) w' ∧ Step H.length Mx G H w (gput (gput G b none) H.length (some l')) (H.set b .dead ++ [o']) w' := by
  have hlt : b < H.length := (List.getElem?_eq_some_iff.1 hH).1
  have hlen : (H.set b HO.dead).length = H.length := by simp
  have hnew : ∀ b1 l1, b1 < H.length → gput (gput G b none) H.length (some l') b1 = some l1 → G b1 = some l1 ∧ b1 ≠ b := fun b1 l1 h1 h => by
    rw [gput_other _ _ (by omega)] at h
    by_cases hb : b1 = b
    · subst hb; rw [gput_same] at h; cases h
    · exact ⟨by rwa [gput_other _ _ hb] at h, hb⟩
  have hcases : ∀ b1 l1, gput (gput G b none) H.length (some l') b1 = some l1 → (b1 = H.length ∧ l1 = l') ∨ (b1 < H.length ∧ b1 ≠ b ∧ G b1 = some l1) := fun b1 l1 h => by
    by_cases hb1 : b1 = H.length
    · subst hb1; rw [gput_same] at h; cases h; exact .inl ⟨rfl, rfl⟩
    · have h' := h
      rw [gput_other _ _ hb1] at h'
      by_cases hb : b1 = b
      · subst hb; rw [gput_same] at h'; cases h'
      · rw [gput_other _ _ hb] at h'
        exact .inr ⟨hs.dom _ _ h', hb, h'⟩
  have hmm : ∀ k i, ¬ MM Mx G H k i → ¬ MM Mx (gput (gput G b none) H.length (some l')) (H.set b .dead ++ [o']) k i := by
    rintro k i hm (hx | ⟨b1, l1, o1, hg, hH1, hbk, hmu⟩)
    · exact hm (.inl hx)
    · rcases hcases b1 l1 hg with ⟨rfl, rfl⟩ | ⟨h1, h2, h3⟩
      · rw [List.getElem?_append_right (by omega), hlen, Nat.sub_self, List.getElem?_cons_zero] at hH1
        cases hH1
        rw [hkb'] at hbk
        cases hbk
        exact hm (.inr ⟨b, l, o, hG, hH, hkb, hmut i hmu⟩)
      · rw [List.getElem?_append_left (by omega), List.getElem?_set_ne (fun e => h2 e.symm)] at hH1
        exact hm (.inr ⟨b1, l1, o1, h3, hH1, hbk, hmu⟩)
  have hcell : ∀ k i v, w.cell? ⟨k, i, none⟩ = some v → ¬ MM Mx G H k i → w'.cell? ⟨k, i, none⟩ = some v ∧ ¬ MM Mx (gput (gput G b none) H.length (some l')) (H.set b .dead ++ [o']) k i := by
    intro k i v h1 h2
    refine ⟨?_, hmm k i h2⟩
    by_cases hk : k = kb
    · subst hk
      exact hown i v h1 (fun hm => h2 (.inr ⟨b, l, o, hG, hH, hkb, hm⟩))
    · rw [World.cell?_of_block (a := ⟨k, i, none⟩) (hfar k hk)]
      exact h1
  refine ⟨⟨?_, ?_, ?_, ?_, fun k i h => by rw [hsz]; exact hs.lt k i h⟩, ⟨hos, htp, hout, by omega, ⟨Nat.le_refl _, by simp⟩, fun k hk hn => hfar k (fun e => hn b l hG (e ▸ hkb)), hcell, fun b1 l1 h1 h => (hnew b1 l1 h1 h).1, ?_⟩⟩
  · intro b1 l1 h
    rcases hcases b1 l1 h with ⟨rfl, rfl⟩ | ⟨h1, h2, h3⟩ <;> simp
    omega
  · intro b1 o1 h
    by_cases hb1 : b1 = H.length
    · subst hb1
      rw [List.getElem?_append_right (by omega), hlen, Nat.sub_self, List.getElem?_cons_zero] at h
      cases h
      rw [gput_same]
      simpa using ho hcell
    · have hlt1 : b1 < H.length := by have := (List.getElem?_eq_some_iff.1 h).1; simp at this; omega
      rw [List.getElem?_append_left (by omega)] at h
      rw [gput_other _ _ hb1]
      by_cases hb : b1 = b
      · subst hb
        rw [List.getElem?_set_self hlt] at h
        cases h
        rw [gput_same]
        rfl
      · rw [List.getElem?_set_ne (fun e => hb e.symm)] at h
        rw [gput_other _ _ hb]
        exact (hs.obj b1 o1 h).mono hcell (by simp) (fun b2 l2 h1 h => (hnew b2 l2 h1 h).1) (fun l0 k hl0 hk => hfar k (fun e => by subst e; exact hb (hs.inj b1 b l0 l k hl0 hG hk hkb)))
  · intro b1 b2 l1 l2 k h1 h2 k1 k2
    rcases hcases b1 l1 h1 with ⟨rfl, rfl⟩ | ⟨a1, a2, a3⟩ <;> rcases hcases b2 l2 h2 with ⟨rfl, rfl⟩ | ⟨c1, c2, c3⟩
    · rfl
    · rw [hkb'] at k1; cases k1
      exact absurd (hs.inj b2 b l2 l _ c3 hG k2 hkb) c2
    · rw [hkb'] at k2; cases k2
      exact absurd (hs.inj b1 b l1 l _ a3 hG k1 hkb) a2
    · exact hs.inj b1 b2 l1 l2 k a3 c3 k1 k2
  · intro b1 l1 k i h hk
    rcases hcases b1 l1 h with ⟨rfl, rfl⟩ | ⟨a1, a2, a3⟩
    · rw [hkb'] at hk; cases hk
      exact hs.ext b l _ i hG hkb
    · exact hs.ext b1 l1 k i a3 hk
  · intro b1 l1 k h hk
    rcases hcases b1 l1 h with ⟨rfl, rfl⟩ | ⟨a1, a2, a3⟩
    · rw [hkb'] at hk; cases hk
      exact .inl ⟨b, l, hG, hkb⟩
    · exact .inl ⟨b1, l1, a3, hk⟩

/-- An object is given up. -/
theorem Sim.kill {Mx : Mut} {G : Gh} {H : Heap} {w : World} (hs : Sim Mx G H w) {b : Nat} (hlt : b < H.length) :
    Sim Mx (gput G b none) (H.set b .dead) w ∧ Step H.length Mx G H w (gput G b none) (H.set b .dead) w := by
  have hnew : ∀ b1 l1, gput G b none b1 = some l1 → G b1 = some l1 ∧ b1 ≠ b := fun b1 l1 h => by
    by_cases hb : b1 = b
    · subst hb; rw [gput_same] at h; cases h
    · exact ⟨by rwa [gput_other _ _ hb] at h, hb⟩
  have hmm : ∀ k i, ¬ MM Mx G H k i → ¬ MM Mx (gput G b none) (H.set b .dead) k i := by
    rintro k i hm (hx | ⟨b1, l1, o1, hg, hH1, hbk, hmu⟩)
    · exact hm (.inl hx)
    · obtain ⟨hg', hb⟩ := hnew b1 l1 hg
      rw [List.getElem?_set_ne (fun e => hb e.symm)] at hH1
      exact hm (.inr ⟨b1, l1, o1, hg', hH1, hbk, hmu⟩)
  have hcell : ∀ k i v, w.cell? ⟨k, i, none⟩ = some v → ¬ MM Mx G H k i → w.cell? ⟨k, i, none⟩ = some v ∧ ¬ MM Mx (gput G b none) (H.set b .dead) k i := fun k i v h1 h2 => ⟨h1, hmm k i h2⟩
  refine ⟨⟨fun b1 l1 h => by simpa using hs.dom b1 l1 (hnew b1 l1 h).1, ?_, fun b1 b2 l1 l2 k h1 h2 => hs.inj b1 b2 l1 l2 k (hnew _ _ h1).1 (hnew _ _ h2).1, fun b1 l1 k i h => hs.ext b1 l1 k i (hnew _ _ h).1, hs.lt⟩,
    ⟨rfl, rfl, rfl, Nat.le_refl _, ⟨Nat.le_refl _, by simp⟩, fun _ _ _ => rfl, hcell, fun b1 l1 _ h => (hnew b1 l1 h).1, fun b1 l1 k h hk => .inl ⟨b1, l1, (hnew _ _ h).1, hk⟩⟩⟩
  intro b1 o1 h
  by_cases hb : b1 = b
  · subst hb
    rw [List.getElem?_set_self hlt] at h
    cases h
    rw [gput_same]
    rfl
  · rw [List.getElem?_set_ne (fun e => hb e.symm)] at h
    rw [gput_other _ _ hb]
    exact (hs.obj b1 o1 h).mono hcell (by simp) (fun b2 l2 _ h => (hnew b2 l2 h).1) (fun _ _ _ _ => rfl)

/-- A new row, in a new block. -/
theorem row_push {Mx : Mut} {G : Gh} {w w' : World} (hs : Sim Mx G H w) (hb : RowKit.Below w.heap.size w w') {wr : Bool} {e sz : Nat} {es : List (List AV)} {cur : Array Value} {cap g : Nat}
    (h0 : 0 < sz) (hle : ∀ (i : Nat) el, es[i]? = some el → el.length = sz) (hg : w.heap.size ≤ g) (hk : w'.heap[g]? = some (.cells cur e (0, 0))) (h1 : es.length ≤ cap) (h2 : cap ≤ maxLen) (h3 : cur.size = cap * sz)
    (hc : ∀ (i : Nat) el (j : Nat) x u, es[i]? = some el → el[j]? = some x → cur[i * sz + j]? = some u → u.oneCell' = true ∧ RV w (MM Mx G H) 0 G0 u x) :
    ∃ G', Sim Mx G' (H ++ [.row wr e sz es]) w' ∧ Step H.length Mx G H w G' (H ++ [.row wr e sz es]) w' ∧
      RV w' (MM Mx G' (H ++ [.row wr e sz es])) (H.length + 1) G' (.slice (some ⟨g, 0, none⟩) es.length cap) (.row H.length) := by
  have hbase := hs.below hb
  have hpush := hs.push (o := .row wr e sz es) (l := .row (.slice (some ⟨g, 0, none⟩) es.length cap) sz true) hb (fun k hk => by simp only [Loc.block, if_true, Value.ownBlock, Option.some.injEq] at hk; omega) ?_
  · refine ⟨_, hpush.1, hpush.2, .row _ _ _ _ (by omega) rfl (fun l hl => ?_)⟩
    rw [gput_same] at hl
    cases hl
    exact ⟨_, _, rfl⟩
  · refine ⟨h0, hle, .inr ⟨g, cap, cur, rfl, hk, h1, h2, h3, fun i u hu hi => ?_, fun i el j x u e1 e2 e3 => ?_⟩⟩
    · have hdiv : i / sz < es.length := by rw [Nat.div_lt_iff_lt_mul h0]; exact hi
      have hmod := Nat.mod_lt i h0
      have hel : es[i / sz]? = some es[i / sz] := List.getElem?_eq_getElem hdiv
      have hlen := hle _ _ hel
      have hx : (es[i / sz])[i % sz]? = some ((es[i / sz])[i % sz]'(by omega)) := List.getElem?_eq_getElem (by omega)
      have hi2 : i / sz * sz + i % sz = i := by rw [Nat.mul_comm]; exact Nat.div_add_mod i sz
      exact (hc _ _ _ _ u hel hx (by rw [hi2]; exact hu)).1
    · refine (hc i el j x u e1 e2 e3).2.mono (fun k i v c1 c2 => ⟨(hb.cell (p := ⟨k, i, none⟩) (cell_lt c1)).trans c1, ?_⟩) (Nat.le_refl _) (fun _ _ _ h => h)
      rintro (hx' | ⟨b, l, o1, hg1, hH1, hbk, hmu⟩)
      · exact c2 (.inl hx')
      · by_cases hbl : b = H.length
        · subst hbl
          rw [gput_same] at hg1
          cases hg1
          simp only [Loc.block, if_true, Value.ownBlock, Option.some.injEq] at hbk
          have := cell_lt c1
          omega
        · rw [gput_other G _ hbl] at hg1
          have hlt := hs.dom b l hg1
          rw [List.getElem?_append_left hlt] at hH1
          exact c2 (.inr ⟨b, l, o1, hg1, hH1, hbk, hmu⟩)

/-- A new row without elements, that lies nowhere. -/
theorem row_push0 {Mx : Mut} {G : Gh} {w : World} (hs : Sim Mx G H w) {wr : Bool} {e sz : Nat} (h0 : 0 < sz) (A : Option Addr) :
    ∃ G', Sim Mx G' (H ++ [.row wr e sz []]) w ∧ Step H.length Mx G H w G' (H ++ [.row wr e sz []]) w ∧
      RV w (MM Mx G' (H ++ [.row wr e sz []])) (H.length + 1) G' (.slice A 0 0) (.row H.length) := by
  have hpush := hs.push (o := .row wr e sz []) (l := .row (.slice A 0 0) sz false) (RowKit.Below.refl _ _) (fun k hk => by simp [Loc.block] at hk) ⟨h0, fun i el h => by simp at h, .inl ⟨rfl, A, rfl⟩⟩
  refine ⟨_, hpush.1, hpush.2, .row _ _ _ _ (by omega) rfl (fun l hl => ?_)⟩
  rw [gput_same] at hl
  cases hl
  exact ⟨_, _, rfl⟩

/-- A slice's cells, in one list. -/
theorem SliceAt.flat {w : World} {M : Mut} {v : Value} {ys : List (List AV)} {sz : Nat} (h : SliceAt w M v ys) (h0 : 0 < sz) (hle : ∀ (i : Nat) el, ys[i]? = some el → el.length = sz) :
    ∃ (A : Option Addr) (cap : Nat) (news : List Value), v = .slice A ys.length cap ∧ news.length = ys.length * sz ∧ (∀ u ∈ news, u.oneCell' = true) ∧
      (ys ≠ [] → ∃ ad, A = some ad ∧ ∀ j u, news[j]? = some u → w.cell? (ad.add j) = some u) ∧
      (∀ (i : Nat) el (j : Nat) x u, ys[i]? = some el → el[j]? = some x → news[i * sz + j]? = some u → RV w M 0 G0 u x) := by
  obtain ⟨A, cap, hv, _, hc⟩ := h
  by_cases hne : ys = []
  · subst hne
    exact ⟨A, cap, [], hv, by simp, by simp, fun h => absurd rfl h, fun i el j x u h => by simp at h⟩
  · obtain ⟨k, off, sz', hA, hsz, hcells⟩ := hc hne
    have hszz : sz' = sz := by
      cases h : ys[0]? with
      | none => rw [List.getElem?_eq_none_iff] at h; exact absurd (List.eq_nil_of_length_eq_zero (by omega)) hne
      | some el => rw [← hsz 0 el h, hle 0 el h]
    subst hszz
    let news : List Value := (List.range (ys.length * sz')).map fun q => (w.cell? ⟨k, off + q, none⟩).getD undef
    have key : ∀ q, q < ys.length * sz' → ∃ u, w.cell? ⟨k, off + q, none⟩ = some u ∧ u.oneCell' = true := by
      intro q hq
      have hdiv : q / sz' < ys.length := by rw [Nat.div_lt_iff_lt_mul h0]; exact hq
      have hmod := Nat.mod_lt q h0
      have hel : ys[q / sz']? = some ys[q / sz'] := List.getElem?_eq_getElem hdiv
      have hlen := hle _ _ hel
      have hx : (ys[q / sz'])[q % sz']? = some ((ys[q / sz'])[q % sz']'(by omega)) := List.getElem?_eq_getElem (by omega)
      obtain ⟨u, hu, h1, _⟩ := hcells _ _ _ _ hel hx
      have hq2 : q / sz' * sz' + q % sz' = q := by rw [Nat.mul_comm]; exact Nat.div_add_mod q sz'
      rw [Nat.add_assoc, hq2] at hu
      exact ⟨u, hu, h1⟩
    have hget : ∀ (q : Nat) u, news[q]? = some u → w.cell? ⟨k, off + q, none⟩ = some u := by
      intro q u hu
      simp only [news, List.getElem?_map] at hu
      by_cases hq : q < ys.length * sz'
      · rw [List.getElem?_range hq] at hu
        obtain ⟨u', hu', _⟩ := key q hq
        simp only [Option.map_some, hu', Option.getD_some, Option.some.injEq] at hu
        rw [hu', hu]
      · rw [List.getElem?_eq_none (by simp; omega)] at hu
        cases hu
    refine ⟨A, cap, news, hv, by simp [news], fun u hu => ?_, fun _ => ⟨⟨k, off, none⟩, hA, fun j u hu => by rw [Addr.add_lit]; exact hget j u hu⟩, fun i el j x u e1 e2 e3 => ?_⟩
    · obtain ⟨q, hq, rfl⟩ := List.mem_iff_getElem.1 hu
      obtain ⟨u', hu', h1⟩ := key q (by simpa [news] using hq)
      have := hget q _ (List.getElem?_eq_getElem hq)
      rw [hu'] at this
      cases this
      exact h1
    · obtain ⟨u', hu', _, hr⟩ := hcells i el j x e1 e2
      have := hget _ u e3
      rw [← Nat.add_assoc, hu'] at this
      cases this
      exact hr

theorem rows_append {es ys : List (List AV)} {xs news : List Value} {sz : Nat} {R : Value → AV → Prop} (hx : xs.length = es.length * sz)
    (hle : ∀ (i : Nat) el, es[i]? = some el → el.length = sz)
    (h1 : ∀ (i : Nat) el (j : Nat) x u, es[i]? = some el → el[j]? = some x → xs[i * sz + j]? = some u → R u x)
    (h2 : ∀ (i : Nat) el (j : Nat) x u, ys[i]? = some el → el[j]? = some x → news[i * sz + j]? = some u → R u x) :
    ∀ (i : Nat) el (j : Nat) x u, (es ++ ys)[i]? = some el → el[j]? = some x → (xs ++ news)[i * sz + j]? = some u → R u x := by
  intro i el j x u e1 e2 e3
  by_cases hi : i < es.length
  · rw [List.getElem?_append_left hi] at e1
    have hj : j < sz := by rw [← hle i el e1]; exact (List.getElem?_eq_some_iff.1 e2).1
    obtain ⟨hlt, _⟩ := row_idx hi hj (Nat.le_refl _)
    rw [List.getElem?_append_left (by omega)] at e3
    exact h1 i el j x u e1 e2 e3
  · rw [List.getElem?_append_right (by omega)] at e1
    have hmul : i * sz = es.length * sz + (i - es.length) * sz := by rw [← Nat.add_mul]; congr 1; omega
    rw [List.getElem?_append_right (by omega), hx, hmul, show es.length * sz + (i - es.length) * sz + j - es.length * sz = (i - es.length) * sz + j by omega] at e3
    exact h2 _ el j x u e1 e2 e3

end Go.Abs

/-
An abstract machine over values as trees: append, slice literals, make, what is written into a row.
-/
namespace Go.Abs
open Go
variable {P : Program} {o : Oper} {a : List AV} {H : Heap} {K E : AV → Heap → Prop}

/-- append onto a slice at which nothing lies. -/
theorem run_append_zero {t ty e : TypeId} {i : TypeInfo} {z : Value} (ht : P.underlying t = some (.slice e)) (hi : P.info? e = some i) (hz : i.zero = some z) (hzs : z.cells.size = i.size)
    {w : World} {A B : Option Addr} {c m : Nat} {news : List Value} (hl : news.length = m * i.size) (hnews : m ≠ 0 → ∃ ad, B = some ad ∧ ∀ j u, news[j]? = some u → w.cell? (ad.add j) = some u)
    (hbytes : m * i.bytes ≤ 140737488355328) (hm : m ≤ 140737488355328) :
    (m = 0 ∧ (Builtin.append_ #[t, t] ty #[.slice A 0 0, .slice B m c]).run P w = .ok (.slice A 0 0) w) ∨
    (m ≠ 0 ∧ ∃ (cap : Nat) (cur : Array Value), (Builtin.append_ #[t, t] ty #[.slice A 0 0, .slice B m c]).run P w = .ok (.slice (some ⟨w.heap.size, 0, none⟩) m cap) (w.drew.alloc (.cells cur e)) ∧
      m ≤ cap ∧ cap ≤ maxLen ∧ cur.size = cap * i.size ∧ ∀ (j : Nat) u, news[j]? = some u → cur[j]? = some u) := by
  by_cases h0 : m = 0
  · subst h0
    refine .inl ⟨rfl, ?_⟩
    have hf : (Builtin.firstCells i.size 0 (.slice B 0 c)).run P w = .ok #[] w := by cases B <;> simp [Builtin.firstCells, loadCells, loadCellsFrom]
    cases A <;> simp [Builtin.append_, run_underlying ht, sizeOf, typeInfo, hi, Builtin.lenOf, hf, storeCells]
  · obtain ⟨ad, rfl, hcells⟩ := hnews h0
    refine .inr ⟨h0, grownCap w m 0 e, news.toArray ++ Builtin.zeroCells z.cells (grownCap w m 0 e - m), ?_, grownCap_ge w m 0 e, grownCap_le_maxLen w m 0 e (by simp only [maxLen]; omega), ?_, ?_⟩
    · cases A with
      | none =>
        exact run_append_nil (P := P) w t ty e i z ht hi hz ad m c news hl hcells (by omega) (by omega) (by omega)
      | some b =>
        have hr := run_append_grow (P := P) w t ty e i z ht hi hz b 0 0 [] (by simp) (fun j v h => by simp at h) ad m c news hl hcells (by omega) (by omega) (growslice_fits (by omega) (by simpa using hbytes))
        simpa using hr
    · have hge := grownCap_ge w m 0 e
      simp only [Array.size_append, List.size_toArray, size_zeroCells, hzs, hl, ← Nat.add_mul]
      congr 1
      omega
    · intro j u hu
      have hj := (List.getElem?_eq_some_iff.1 hu).1
      rw [Array.getElem?_append_left (by simpa using hj)]
      simpa using hu

theorem opS_append_core {t e : TypeId} {i : TypeInfo} {s x : Operand} {ats : Array TypeId} {ys : List (List AV)}
    (ho : o.op = .call { callee := .builtin .append, args := #[s, x], argTypes := ats }) (hat : ats.toList = [t, t])
    (ht : P.underlying t = some (.slice e)) (hi : P.info? e = some i) (hz : zsz P e = true) (h0 : 0 < i.size)
    (hy : elems H (aeval a x) = some ys) (hle : ∀ el ∈ ys, el.length = i.size) :
    (aeval a s = .zslice → ys.length * i.bytes ≤ 140737488355328 → ys.length ≤ 140737488355328 → K (.row H.length) (H ++ [.row true e i.size ys]) → OpS P o a H K E) ∧
    (∀ b wr es, aeval a s = .row b → H[b]? = some (.row wr e i.size es) → (es.length + ys.length) * i.bytes ≤ 140737488355328 → es.length + ys.length ≤ 140737488355328 →
      K (.row H.length) (H.set b .dead ++ [.row wr e i.size (es ++ ys)]) → OpS P o a H K E) := by
  have hat' : ats = #[t, t] := by
    have := congrArg List.toArray hat
    simpa using this
  subst hat'
  obtain ⟨zv, hzv, hzs⟩ : ∃ zv, i.zero = some zv ∧ zv.cells.size = i.size := by
    unfold zsz at hz
    rw [hi] at hz
    simp only at hz
    split at hz
    · rename_i z hz'
      exact ⟨z, hz', by simpa using hz⟩
    · cases hz
  have hle' : ∀ (j : Nat) el, ys[j]? = some el → el.length = i.size := fun j el h => hle el (List.mem_of_getElem? h)
  have hexec : ∀ act : Act, execOp act.eval o = (do pure (.value (← Builtin.append_ #[t, t] o.type #[act.eval s, act.eval x]))) := by
    intro act
    simp [execOp, ho, resolve, invoke, builtin]
  constructor
  · intro hs0 hb1 hb2 h Mx G w act hs htv next Q hK _
    have es0 := ev htv s
    rw [hs0] at es0
    obtain ⟨A, hA⟩ := es0.zslice_inv
    obtain ⟨B, c, news, hv, hnl, hn1, hn2, hn3⟩ := (elems_sound hs (ev htv x) hy).flat h0 hle'
    have hrun := run_append_zero (P := P) (ty := o.type) ht hi hzv hzs (w := w) (A := A) (B := B) (c := c) hnl (fun hne => hn2 (fun e => hne (by simp [e]))) hb1 hb2
    rcases hrun with ⟨hm, hrun⟩ | ⟨hm, cap, cur, hrun, hc1, hc2, hc3, hc4⟩
    · have hys : ys = [] := List.eq_nil_of_length_eq_zero hm
      subst hys
      obtain ⟨G', g1, g2, g3⟩ := row_push0 hs (wr := true) (e := e) h0 A
      refine wp_value (v := .slice A 0 0) (w' := w) ?_ (hK _ _ G' _ _ g2 g1 (by simpa using g3) h)
      rw [hexec, hA, hv]
      simp only [Sem.run_bind]
      rw [show (Builtin.append_ #[t, t] o.type #[.slice A 0 0, .slice B ([] : List (List AV)).length c]).run P w = .ok (.slice A 0 0) w from hrun]
      rfl
    · have hbel : RowKit.Below w.heap.size w (w.drew.alloc (.cells cur e)) := (RowKit.Below.refl _ _).drew.alloc (by simp) _
      obtain ⟨G', g1, g2, g3⟩ := row_push (g := w.heap.size) (cap := cap) (cur := cur) hs hbel (wr := true) (e := e) (es := ys) h0 hle' (Nat.le_refl _) (heap_alloc_new w.drew _) hc1 hc2 hc3 (fun i1 el j y u e1 e2 e3 => by
        have hi1 := (List.getElem?_eq_some_iff.1 e1).1
        have hj : j < i.size := by rw [← hle' i1 el e1]; exact (List.getElem?_eq_some_iff.1 e2).1
        obtain ⟨hlt, _⟩ := row_idx hi1 hj (Nat.le_refl _)
        have hnn : news[i1 * i.size + j]? = some news[i1 * i.size + j] := List.getElem?_eq_getElem (by omega)
        have := hc4 _ _ hnn
        rw [e3] at this
        cases this
        exact ⟨hn1 _ (List.getElem_mem _), hn3 i1 el j y _ e1 e2 hnn⟩)
      refine wp_value (v := .slice (some ⟨w.heap.size, 0, none⟩) ys.length cap) (w' := w.drew.alloc (.cells cur e)) ?_ (hK _ _ G' _ _ g2 g1 (by simpa using g3) h)
      rw [hexec, hA, hv]
      simp only [Sem.run_bind, hrun]
      rfl
  · intro b wr es hsb hH hb1 hb2 h Mx G w act hs htv next Q hK _
    have es0 := ev htv s
    rw [hsb] at es0
    have hlt := (List.getElem?_eq_some_iff.1 hH).1
    obtain ⟨B, c, news, hv, hnl, hn1, hn2, hn3⟩ := (elems_sound hs (ev htv x) hy).flat h0 hle'
    obtain ⟨_, hes, hrow⟩ := hs.obj b _ hH
    have hboth : ∀ (j : Nat) el, (es ++ ys)[j]? = some el → el.length = i.size := by
      intro j el hj
      by_cases hlt : j < es.length
      · rw [List.getElem?_append_left hlt] at hj; exact hes j el hj
      · rw [List.getElem?_append_right (by omega)] at hj; exact hle' _ el hj
    rcases hrow with ⟨rfl, A, hG⟩ | ⟨g, cap, cur, hG, hk, hc1, hc2, hc3, hc4, hc5⟩
    · have hA := es0.row_inv hG
      simp only [List.length_nil, Nat.zero_add, List.nil_append] at hb1 hb2 h
      have hrun := run_append_zero (P := P) (ty := o.type) ht hi hzv hzs (w := w) (A := A) (B := B) (c := c) hnl (fun hne => hn2 (fun e => hne (by simp [e]))) hb1 hb2
      obtain ⟨k1, k2⟩ := hs.kill hlt
      rcases hrun with ⟨hm, hrun⟩ | ⟨hm, cap, cur, hrun, hc1, hc2, hc3, hc4⟩
      · have hys : ys = [] := List.eq_nil_of_length_eq_zero hm
        subst hys
        obtain ⟨G', g1, g2, g3⟩ := row_push0 k1 (wr := wr) (e := e) h0 A
        simp only [List.length_set] at g1 g2 g3
        refine wp_value (v := .slice A 0 0) (w' := w) ?_ (hK _ _ G' _ _ (k2.trans (by simp) g2) g1 (by simpa using g3) h)
        rw [hexec, hA, hv]
        simp only [Sem.run_bind]
        rw [show (Builtin.append_ #[t, t] o.type #[.slice A 0 0, .slice B ([] : List (List AV)).length c]).run P w = .ok (.slice A 0 0) w from hrun]
        rfl
      · have hbel : RowKit.Below w.heap.size w (w.drew.alloc (.cells cur e)) := (RowKit.Below.refl _ _).drew.alloc (by simp) _
        obtain ⟨G', g1, g2, g3⟩ := row_push (g := w.heap.size) (cap := cap) (cur := cur) k1 hbel (wr := wr) (e := e) (es := ys) h0 hle' (Nat.le_refl _) (heap_alloc_new w.drew _) hc1 hc2 hc3 (fun i1 el j y u e1 e2 e3 => by
          have hi1 := (List.getElem?_eq_some_iff.1 e1).1
          have hj : j < i.size := by rw [← hle' i1 el e1]; exact (List.getElem?_eq_some_iff.1 e2).1
          obtain ⟨hlt, _⟩ := row_idx hi1 hj (Nat.le_refl _)
          have hnn : news[i1 * i.size + j]? = some news[i1 * i.size + j] := List.getElem?_eq_getElem (by omega)
          have := hc4 _ _ hnn
          rw [e3] at this
          cases this
          exact ⟨hn1 _ (List.getElem_mem _), (hn3 i1 el j y _ e1 e2 hnn).mono (fun k i v g1 g2 => k2.still k i v g1 g2) (Nat.le_refl _) (fun _ _ _ h => h)⟩)
        simp only [List.length_set] at g1 g2 g3
        refine wp_value (v := .slice (some ⟨w.heap.size, 0, none⟩) ys.length cap) (w' := w.drew.alloc (.cells cur e)) ?_ (hK _ _ G' _ _ (k2.trans (by simp) g2) g1 (by simpa using g3) h)
        rw [hexec, hA, hv]
        simp only [Sem.run_bind, hrun]
        rfl
    · have hA := es0.row_inv hG
      have hsrc : ys ≠ [] ∨ ys = [] := by by_cases h : ys = [] <;> simp [h]
      by_cases hroom : es.length + ys.length ≤ cap
      · -- there is room
        have hfit : es.length * i.size + news.length ≤ cur.size := by rw [hnl, hc3, ← Nat.add_mul]; exact Nat.mul_le_mul_right _ hroom
        let cur' : Array Value := (cur.toList.take (es.length * i.size) ++ news ++ cur.toList.drop (es.length * i.size + news.length)).toArray
        have hrun : (Builtin.append_ #[t, t] o.type #[.slice (some ⟨g, 0, none⟩) es.length cap, .slice B ys.length c]).run P w = .ok (.slice (some ⟨g, 0, none⟩) (es.length + ys.length) cap) (w.setRow g cur') := by
          rcases hsrc with hne | rfl
          · obtain ⟨ad, rfl, hcells⟩ := hn2 hne
            exact run_append_room (P := P) w t o.type e i ht hi g es.length cap cur hk ad ys.length c news hnl hcells hn1 hroom hfit
          · have hnn : news = [] := List.eq_nil_of_length_eq_zero (by simpa using hnl)
            subst hnn
            have hcur : cur' = cur := by simp [cur']
            rw [hcur, setRow_self w g cur e (0, 0) hk]
            have hf : (Builtin.firstCells i.size 0 (.slice B 0 c)).run P w = .ok #[] w := by cases B <;> simp [Builtin.firstCells, loadCells, loadCellsFrom]
            simp [Builtin.append_, run_underlying ht, sizeOf, typeInfo, hi, Builtin.lenOf, hf, storeCells, hc1]
        have hget : ∀ q, cur'[q]? = if q < es.length * i.size then cur[q]? else if q < es.length * i.size + news.length then news[q - es.length * i.size]? else cur[q]? := by
          intro q
          simp only [cur', List.getElem?_toArray, List.append_assoc]
          by_cases hq : q < es.length * i.size
          · rw [List.getElem?_append_left (by simp; omega), List.getElem?_take_of_lt hq, if_pos hq]
            simp
          · rw [List.getElem?_append_right (by simp; omega), if_neg hq]
            simp only [List.length_take, Array.length_toList]
            rw [Nat.min_eq_left (by omega)]
            by_cases hq2 : q < es.length * i.size + news.length
            · rw [List.getElem?_append_left (by omega), if_pos hq2]
            · rw [List.getElem?_append_right (by omega), if_neg hq2]
              simp only [List.getElem?_drop, Array.getElem?_toList]
              congr 1
              omega
        have hsz' : cur'.size = cap * i.size := by
          simp only [cur', List.size_toArray, List.length_append, List.length_take, List.length_drop, Array.length_toList]
          omega
        have hR : ∀ (q : Nat) el (j : Nat) y u, (es ++ ys)[q]? = some el → el[j]? = some y → cur'[q * i.size + j]? = some u → u.oneCell' = true ∧ RV w (MM Mx G H) 0 G0 u y := by
          intro q el j y u e1 e2 e3
          rw [hget] at e3
          by_cases hq : q < es.length
          · rw [List.getElem?_append_left hq] at e1
            have hj : j < i.size := by rw [← hes q el e1]; exact (List.getElem?_eq_some_iff.1 e2).1
            obtain ⟨hlt1, _⟩ := row_idx hq hj (Nat.le_refl _)
            rw [if_pos hlt1] at e3
            exact ⟨hc4 _ _ e3 hlt1, hc5 q el j y u e1 e2 e3⟩
          · have hj : j < i.size := by rw [← hboth q el e1]; exact (List.getElem?_eq_some_iff.1 e2).1
            rw [List.getElem?_append_right (by omega)] at e1
            have hq' : q - es.length < ys.length := (List.getElem?_eq_some_iff.1 e1).1
            obtain ⟨hlt1, _⟩ := row_idx hq' hj (Nat.le_refl _)
            have hmul : q * i.size = es.length * i.size + (q - es.length) * i.size := by rw [← Nat.add_mul]; congr 1; omega
            rw [if_neg (by omega), if_pos (by omega), show q * i.size + j - es.length * i.size = (q - es.length) * i.size + j by omega] at e3
            exact ⟨hn1 u (List.mem_of_getElem? e3), hn3 _ el j y u e1 e2 e3⟩
        have hreg := hs.regrow (w' := w.setRow g cur') (o' := .row wr e i.size (es ++ ys)) (l' := .row (.slice (some ⟨g, 0, none⟩) (es ++ ys).length cap) i.size true) (kb := g) hH hG rfl rfl rfl rfl rfl (by simp) (fun k1 hk1 => setRow_other w g k1 _ hk1)
          (fun q hq => by
            rcases hq with hq | hq
            · exact .inl hq
            · refine .inr (Nat.le_trans (Nat.mul_le_mul_right _ ?_) hq)
              simp)
          (fun q u hu hq => by
            simp only [HO.mut, not_or, Nat.not_le] at hq
            rw [cell_of hk] at hu
            rw [cell_of (setRow_heap w g cur cur' e _ hk), hget, if_pos hq.2]
            exact hu)
          (fun hcell => ⟨h0, hboth, .inr ⟨g, cap, cur', rfl, setRow_heap w g cur cur' e _ hk, by simpa using hroom, hc2, hsz', fun q u hu hq => by
              have hdiv : q / i.size < (es ++ ys).length := by rw [Nat.div_lt_iff_lt_mul h0]; exact hq
              have hmod := Nat.mod_lt q h0
              have hel : (es ++ ys)[q / i.size]? = some (es ++ ys)[q / i.size] := List.getElem?_eq_getElem hdiv
              have hlen := hboth _ _ hel
              have hx : ((es ++ ys)[q / i.size])[q % i.size]? = some (((es ++ ys)[q / i.size])[q % i.size]'(by omega)) := List.getElem?_eq_getElem (by omega)
              have hi2 : q / i.size * i.size + q % i.size = q := by rw [Nat.mul_comm]; exact Nat.div_add_mod q i.size
              exact (hR _ _ _ _ u hel hx (by rw [hi2]; exact hu)).1,
            fun q el j y u e1 e2 e3 => (hR q el j y u e1 e2 e3).2.mono hcell (Nat.le_refl _) (fun _ _ _ h => h)⟩⟩)
        refine wp_value (v := .slice (some ⟨g, 0, none⟩) (es ++ ys).length cap) (w' := w.setRow g cur') ?_ (hK _ _ _ _ _ hreg.2 hreg.1 (.row _ _ _ _ (by simp) rfl (fun l hl => by rw [gput_same] at hl; cases hl; exact ⟨_, _, rfl⟩)) h)
        rw [hexec, hA, hv]
        simp only [Sem.run_bind, hrun, List.length_append]
        rfl
      · -- a new block
        have hne : ys ≠ [] := fun e => hroom (by simp [e, hc1])
        obtain ⟨ad, rfl, hcells⟩ := hn2 hne
        let olds : List Value := cur.toList.take (es.length * i.size)
        have hol : olds.length = es.length * i.size := by
          simp only [olds, List.length_take, Array.length_toList]
          have := Nat.mul_le_mul_right i.size hc1
          omega
        have holds : ∀ j v, olds[j]? = some v → w.cell? ((⟨g, 0, none⟩ : Addr).add j) = some v := by
          intro j v hj
          have hlt : j < es.length * i.size := by rw [← hol]; exact (List.getElem?_eq_some_iff.1 hj).1
          simp only [olds] at hj
          rw [List.getElem?_take_of_lt hlt, Array.getElem?_toList] at hj
          rw [Addr.add_lit, Nat.zero_add, cell_of hk]
          exact hj
        have hrun := run_append_grow (P := P) w t o.type e i zv ht hi hzv ⟨g, 0, none⟩ es.length cap olds hol holds ad ys.length c news hnl hcells (by omega) (by omega) (growslice_fits (by omega) hb1)
        generalize hcap : grownCap w (es.length + ys.length) cap e = ncap at hrun
        generalize hcur : olds.toArray ++ news.toArray ++ Builtin.zeroCells zv.cells (ncap - (es.length + ys.length)) = ncur at hrun
        have hge : es.length + ys.length ≤ ncap := by rw [← hcap]; exact grownCap_ge w _ _ e
        have hle2 : ncap ≤ maxLen := by rw [← hcap]; exact grownCap_le_maxLen w _ _ e (by simp only [maxLen]; omega)
        have hncs : ncur.size = ncap * i.size := by
          rw [← hcur]
          simp only [Array.size_append, List.size_toArray, size_zeroCells, hzs, hnl, hol, ← Nat.add_mul]
          congr 1
          omega
        have hpre : ∀ (j : Nat) (u : Value), (olds ++ news)[j]? = some u → ncur[j]? = some u := by
          intro j u hu
          have hj := (List.getElem?_eq_some_iff.1 hu).1
          rw [← hcur, Array.getElem?_append_left (by simpa using hj)]
          simpa using hu
        have hbel : RowKit.Below w.heap.size w (w.drew.alloc (.cells ncur e)) := (RowKit.Below.refl _ _).drew.alloc (by simp) _
        obtain ⟨k1, k2⟩ := hs.kill hlt
        obtain ⟨G', g1, g2, g3⟩ := row_push (g := w.heap.size) (cap := ncap) (cur := ncur) k1 hbel (wr := wr) (e := e) (es := es ++ ys) h0 hboth (Nat.le_refl _) (heap_alloc_new w.drew _) (by simpa using hge) hle2 hncs (fun i1 el j y u e1 e2 e3 => by
          have hi1 := (List.getElem?_eq_some_iff.1 e1).1
          have hj : j < i.size := by rw [← hboth i1 el e1]; exact (List.getElem?_eq_some_iff.1 e2).1
          obtain ⟨hlt, _⟩ := row_idx hi1 hj (Nat.le_refl _)
          rw [List.length_append, Nat.add_mul] at hlt
          have hnn : (olds ++ news)[i1 * i.size + j]? = some ((olds ++ news)[i1 * i.size + j]'(by simp; omega)) := List.getElem?_eq_getElem (by simp; omega)
          have := hpre _ _ hnn
          rw [e3] at this
          cases this
          refine rows_append (R := fun u y => u.oneCell' = true ∧ RV w (MM Mx (gput G b none) (H.set b .dead)) 0 G0 u y) hol hes (fun q el j y u e1 e2 e3 => ?_) (fun q el j y u e1 e2 e3 => ⟨hn1 u (List.mem_of_getElem? e3), (hn3 q el j y u e1 e2 e3).mono (fun k i v g1 g2 => k2.still k i v g1 g2) (Nat.le_refl _) (fun _ _ _ h => h)⟩) i1 el j y _ e1 e2 hnn
          have hq := (List.getElem?_eq_some_iff.1 e1).1
          have hj : j < i.size := by rw [← hes q el e1]; exact (List.getElem?_eq_some_iff.1 e2).1
          obtain ⟨hlt1, _⟩ := row_idx hq hj (Nat.le_refl _)
          simp only [olds] at e3
          rw [List.getElem?_take_of_lt hlt1, Array.getElem?_toList] at e3
          exact ⟨hc4 _ _ e3 hlt1, (hc5 q el j y u e1 e2 e3).mono (fun k i v g1 g2 => k2.still k i v g1 g2) (Nat.le_refl _) (fun _ _ _ h => h)⟩)
        simp only [List.length_set] at g1 g2 g3
        refine wp_value (v := .slice (some ⟨w.heap.size, 0, none⟩) (es ++ ys).length ncap) (w' := w.drew.alloc (.cells ncur e)) ?_ (hK _ _ G' _ _ (k2.trans (by simp) g2) g1 (by simpa using g3) h)
        rw [hexec, hA, hv]
        simp only [Sem.run_bind, hrun, List.length_append]
        rfl


end Go.Abs

/-
An abstract machine over values as trees: literals, made slices, stores into rows, cuts, indexes, conversions of texts, panics.
-/
namespace Go.Abs
open Go
variable {P : Program} {o : Oper} {a : List AV} {H : Heap} {K E : AV → Heap → Prop}

theorem zsz_inv {e : TypeId} {i : TypeInfo} (hi : P.info? e = some i) (hz : zsz P e = true) : ∃ zv, i.zero = some zv ∧ zv.cells.size = i.size := by
  unfold zsz at hz
  rw [hi] at hz
  simp only at hz
  split at hz
  · rename_i z hz'
    exact ⟨z, hz', by simpa using hz⟩
  · cases hz

theorem all_range {z : Array Value} {n : Nat} : ∀ (q : Nat) u, (madeCells z n)[q]? = some u → q < n ∧ u = z[q % z.size]! := by
  intro q u h
  have hq : q < n := by rw [← size_madeCells z n]; exact (Array.getElem?_eq_some_iff.1 h).1
  refine ⟨hq, ?_⟩
  rw [Array.getElem?_eq_getElem (by rw [size_madeCells]; exact hq)] at h
  injection h with h
  rw [← h]
  simp [madeCells]

theorem tcell_rv {w : World} {M : Mut} {n : Nat} {G : Gh} {v : Value} {x : AV} (h : RV w M n G v x) : RV w M 0 G0 v (tcell x) := by
  cases h <;> (simp only [tcell]; constructor)

/-- The zero value's cells, over and over. -/
theorem zeros_rv {w : World} {M : Mut} {zv : Value} {zs : List AV} {sz n : Nat} (hzs : zv.cells.size = sz) (hl : zs.length = sz)
    (hz : ∀ (i : Nat) u y, zv.cells[i]? = some u → zs[i]? = some y → u.oneCell' = true ∧ RV w M 0 G0 u y) :
    ∀ (i : Nat) el (j : Nat) x u, (List.replicate n zs)[i]? = some el → el[j]? = some x → (madeCells zv.cells (n * sz))[i * sz + j]? = some u → u.oneCell' = true ∧ RV w M 0 G0 u x := by
  intro i el j x u e1 e2 e3
  have hel : el = zs := by
    have := List.mem_of_getElem? e1
    exact (List.mem_replicate.1 this).2
  subst hel
  have hj : j < sz := by rw [← hl]; exact (List.getElem?_eq_some_iff.1 e2).1
  obtain ⟨_, rfl⟩ := all_range _ _ e3
  have hmod : (i * sz + j) % zv.cells.size = j := by rw [hzs, Nat.mul_comm, Nat.mul_add_mod, Nat.mod_eq_of_lt hj]
  rw [hmod]
  have hlt : j < zv.cells.size := by omega
  rw [getElem!_pos zv.cells j hlt]
  exact hz j _ _ (Array.getElem?_eq_getElem hlt) e2

theorem zero_cells {w : World} {M : Mut} {zv : Value} (hok : (acells (ofConst zv)).all okCell = true) : ((acells (ofConst zv)).map tcell).length = zv.cells.size ∧
    ∀ (i : Nat) u y, zv.cells[i]? = some u → ((acells (ofConst zv)).map tcell)[i]? = some y → u.oneCell' = true ∧ RV w M 0 G0 u y := by
  have hc := (rv_ofConst (w := w) (M := M) (n := 0) (G := G0) zv).cells hok
  refine ⟨by simp [hc.1], fun i u y h1 h2 => ?_⟩
  rw [List.getElem?_map, Option.map_eq_some_iff] at h2
  obtain ⟨x, hx, rfl⟩ := h2
  obtain ⟨a1, a2⟩ := hc.2 i u x h1 hx
  exact ⟨a1, tcell_rv a2⟩

theorem opS_makeSlice {t e : TypeId} {i : TypeInfo} {z : AV} {l c : Operand} {kl kc : IntKind} {n : Int} (ho : o.op = .makeSlice t l c) (ht : P.underlying t = some (.slice e)) (hi : P.info? e = some i) (hz : zeroA P e = some z)
    (hzs : zsz P e = true) (h0 : 0 < i.size) (hok : (acells z).all okCell = true) (hl : aeval a l = .int kl n) (hc : aeval a c = .int kc n) (hn0 : 0 ≤ n) (hn1 : n < 9223372036854775808) (hb : (i.bytes : Int) * n ≤ 281474976710656)
    (h : K (.row H.length) (H ++ [.row true e i.size (List.replicate n.toNat ((acells z).map tcell))])) : OpS P o a H K E := by
  intro Mx G w act hs htv next Q hK _
  obtain ⟨i', zv, hi', hzv, rfl⟩ := zeroA_inv hz
  rw [hi] at hi'; cases hi'
  obtain ⟨zv', hzv', hsz⟩ := zsz_inv hi hzs
  rw [hzv] at hzv'; cases hzv'
  have e1 := ev htv l
  have e2 := ev htv c
  rw [hl] at e1
  rw [hc] at e2
  have hrun := run_make (P := P) w t e i zv ht hi hzv kl kc n n hn0 (Int.le_refl _) hb (by omega)
  have hbel : RowKit.Below w.heap.size w (w.alloc (.cells (madeCells zv.cells (n.toNat * i.size)) e)) := (RowKit.Below.refl _ _).alloc (Nat.le_refl _) _
  have hzc := zero_cells (w := w) (M := MM Mx G H) hok
  obtain ⟨G', g1, g2, g3⟩ := row_push (g := w.heap.size) (cap := n.toNat) (cur := madeCells zv.cells (n.toNat * i.size)) hs hbel (wr := true) (e := e) (es := List.replicate n.toNat ((acells (ofConst zv)).map tcell)) h0
    (fun j el hj => by rw [(List.mem_replicate.1 (List.mem_of_getElem? hj)).2, hzc.1, hsz]) (Nat.le_refl _) (heap_alloc_new w _) (by simp) (by simp only [maxLen]; omega) (size_madeCells _ _)
    (zeros_rv hsz (by rw [hzc.1, hsz]) hzc.2)
  simp only [List.length_replicate] at g3
  refine wp_value (v := .slice (some ⟨w.heap.size, 0, none⟩) n.toNat n.toNat) (w' := w.alloc (.cells (madeCells zv.cells (n.toNat * i.size)) e)) ?_ (hK _ _ G' _ _ g2 g1 (by simpa using g3) h)
  simp [execOp, ho, e1.int_inv, e2.int_inv, hrun]

theorem opS_loadR {t : TypeId} {x : Operand} {b i c : Nat} {wr : Bool} {e sz : Nat} {es : List (List AV)} {el : List AV} (ho : o.op = .load t x) (hx : aeval a x = .rptr b i c) (hH : H[b]? = some (.row wr e sz es)) (hel : es[i]? = some el) :
    (∀ n, tyOf P t = some (true, n) → c + n ≤ el.length → K (.agg ((el.drop c).take n)) H → OpS P o a H K E) ∧
    (∀ n y r, tyOf P t = some (false, n) → el.drop c = y :: r → K y H → OpS P o a H K E) := by
  have hc : cellsAt H (aeval a x) = some (el.drop c) := by rw [hx]; simp [cellsAt, hH, hel]
  exact ⟨fun n ht hn h => (opS_load ho hc).1 n ht (by simp; omega) h, fun n y r ht hd h => (opS_load ho hc).2 n y r ht hd h⟩

theorem opS_panic {x : Operand} {t : TypeId} {v : AV} (ho : o.op = .panic x) (hx : aeval a x = .iface t v) (h : E (.iface t v) H) : OpS P o a H K E := by
  intro Mx G w act hs htv next Q _ hE
  have e1 := ev htv x
  rw [hx] at e1
  obtain ⟨u, hv, hr⟩ := e1.iface_inv
  have hex : (execOp act.eval o).run P w = .halt (.panic (.iface t u)) w := by simp [execOp, ho, hv, Instr.panic]
  simp only [Oper.wp, hex, Oper.upon]
  exact hE _ H G w _ Step.refl hs (.iface _ _ _ _ _ hr) h

theorem opS_call {T : Tab} (hT : TOK P T) {c : Call} {x : Operand} {f : FuncId} {first cap : List AV} (ho : o.op = .call c) (hcal : c.callee = .value x) (hx : aeval a x = .func (.func f) first cap)
    (h : T f (first ++ c.args.toList.map (aeval a) ++ cap) H fun out H' => match out with | .ret v => K v H' | .pan v => E v H') : OpS P o a H K E := by
  intro Mx G w act hs htv next Q hK hE
  obtain ⟨hent, hcalls⟩ := hT _ _ _ _ h
  have e1 := ev htv x
  rw [hx] at e1
  obtain ⟨f', c', hv, hf, hc⟩ := e1.func_inv
  have hargs := tv_map htv c.args
  have hall : TV w (MM Mx G H) H.length G (f' ++ c.args.map act.eval ++ c') (first ++ c.args.toList.map (aeval a) ++ cap) := by
    have app : ∀ {A B : Array Value} {x y : List AV}, TV w (MM Mx G H) H.length G A x → TV w (MM Mx G H) H.length G B y → TV w (MM Mx G H) H.length G (A ++ B) (x ++ y) := by
      intro A B x y hA hB
      refine ⟨by simp [hA.1, hB.1], fun i v z h1 h2 => ?_⟩
      by_cases hi : i < x.length
      · rw [List.getElem?_append_left hi] at h2
        rw [Array.getElem?_append_left (by rw [hA.1]; exact hi)] at h1
        exact hA.2 i v z h1 h2
      · rw [List.getElem?_append_right (by omega)] at h2
        rw [Array.getElem?_append_right (by rw [hA.1]; omega), hA.1] at h1
        exact hB.2 _ v z h1 h2
    exact app (app hf hargs) hc
  have hex : (execOp act.eval o).run P w = .ok (.enter f (f' ++ c.args.map act.eval ++ c')) w := by
    simp [execOp, ho, resolve, hcal, hv, Deferred.ofValue, invoke, hent _ _]
  simp only [Oper.wp, hex, Oper.upon]
  refine (hcalls Mx G w _ hs hall).mono fun e w' ⟨out, H', G', h1, h2, h3, h4⟩ => ?_
  cases h3 with
  | ret v x hr => exact hK x H' G' w' v h1 h2 hr h4
  | pan v x hr => exact hE x H' G' w' v h1 h2 hr h4

theorem opS_min {k k' : IntKind} {p q : Int} {x y : Operand} {ats : Array TypeId} (ho : o.op = .call { callee := .builtin .min, args := #[x, y], argTypes := ats }) (hx : aeval a x = .int k p) (hy : aeval a y = .int k' q)
    (h : K (.int k (if q < p then q else p)) H) : OpS P o a H K E :=
  opS_same h fun Mx G w act hs htv => by
    have e1 := ev htv x
    have e2 := ev htv y
    rw [hx] at e1
    rw [hy] at e2
    refine ⟨_, ?_, .int ..⟩
    simp [execOp, ho, resolve, invoke, builtin, Builtin.min_, e1.int_inv, e2.int_inv, Builtin.min2]
theorem opS_max {k k' : IntKind} {p q : Int} {x y : Operand} {ats : Array TypeId} (ho : o.op = .call { callee := .builtin .max, args := #[x, y], argTypes := ats }) (hx : aeval a x = .int k p) (hy : aeval a y = .int k' q)
    (h : K (.int k (if p < q then q else p)) H) : OpS P o a H K E :=
  opS_same h fun Mx G w act hs htv => by
    have e1 := ev htv x
    have e2 := ev htv y
    rw [hx] at e1
    rw [hy] at e2
    refine ⟨_, ?_, .int ..⟩
    simp [execOp, ho, resolve, invoke, builtin, Builtin.max_, e1.int_inv, e2.int_inv, Builtin.max2]

theorem opS_lenStr {t : TypeId} {x : Operand} {ats : Array TypeId} {s : ByteArray} (ho : o.op = .call { callee := .builtin .len, args := #[x], argTypes := ats }) (hat : ats[0]? = some t)
    (ht : P.underlying t = some .string) (hx : aeval a x = .str s) (h : K (.int .i64 s.size) H) : OpS P o a H K E :=
  opS_same h fun Mx G w act hs htv => by
    have e1 := ev htv x
    rw [hx] at e1
    refine ⟨_, ?_, .int ..⟩
    simp [execOp, ho, resolve, invoke, builtin, Builtin.len_, hat, run_underlying ht, e1.str_inv, goInt]
theorem opS_lenArr {t e : TypeId} {n : Nat} {x : Operand} {ats : Array TypeId} (ho : o.op = .call { callee := .builtin .len, args := #[x], argTypes := ats }) (hat : ats[0]? = some t)
    (ht : P.underlying t = some (.array n e)) (h : K (.int .i64 n) H) : OpS P o a H K E :=
  opS_same h fun Mx G w act hs htv => by
    refine ⟨_, ?_, .int ..⟩
    simp [execOp, ho, resolve, invoke, builtin, Builtin.len_, hat, run_underlying ht, goInt]

end Go.Abs

