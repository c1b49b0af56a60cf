/-
The document's All is what it comes to.
-/
import Derived.Test.YtmainkiflkagjaaGreatDoorAbw28
import Derived.Test.YtmainkiflkagjaaGreatDoorAbw25
import Derived.Test.YtmainkiflkagjaaGreatDoorAbw19
namespace Go.Abs
open Go Go.Proofs

set_option maxRecDepth 100000 in
set_option maxHeartbeats 32000000 in
theorem fald_ok (view turn n : Int) (l : List RpV) (hl : OkRl l) (T : Tab) (Q : AOut → Prop) (hQ : Q (.ret (.bool (allB ⟨view, turn⟩ l n)))) (N : Nat) (hN : l.length < N) :
    abody Tryz.prog (ext (ext (ext T 38 (flatT grt)) 46 (flatT gqu)) 11 (flatT gri)) 0 N Tryz.f14 [.agg [.int .i64 view, .int .i64 turn], .slice (rpCL l), .int .i64 n] [] (fun out Hs => Q (frzO Hs out)) := by
  have hlen : (rpCL l).length = l.length := by simp [rpCL]
  have hl1 := hl.1
  unfold allB at hQ
  conv => whnf
  cases hr : rightB n with
  | false =>
    rw [hr] at hQ
    conv => whnf
    refine Eq.mp ?_ hQ
    kernel_rfl
  | true =>
  rw [hr] at hQ
  conv => whnf
  cases h2 : (((rpCL l).length : Int) != timesI n 2 1) with
  | true =>
    rw [h2] at hQ
    conv => whnf
    refine Eq.mp ?_ hQ
    kernel_rfl
  | false =>
  rw [h2] at hQ
  replace hQ : Q (.ret (.bool (allG ⟨view, turn⟩ n (-1) l))) := hQ
  conv => whnf
  refine aloop_at ?_ ?_ (aloop_inv (σ := Nat × Int) (fun s => ((sp 0 45 [(2, .int .i64 n), (3, .ptr 0 0), (7, .int .i64 s.2), (20, .slice (rpCL l)), (21, .int .i64 ((rpCL l).length : Nat)), (22, .int .i64 (s.1 : Nat))]), [.var [.int .i64 view, .int .i64 turn]]))
    (fun s => s.1 ≤ l.length ∧ allG ⟨view, turn⟩ n (-1) l = allG ⟨view, turn⟩ n s.2 (l.drop s.1)) (fun s => l.length - s.1) ?_ N (0, -1) ⟨Nat.zero_le _, rfl⟩ (by dsimp only; omega))
  · kernel_rfl
  · kernel_rfl
  rintro ⟨i, last⟩ ⟨i1, i2⟩ R hR
  dsimp only at i1 i2
  rw [i2] at hQ
  conv => whnf
  split
  rotate_left
  · rename_i h3; have h3 : ¬ (i : Int) < (rpCL l).length := of_decide_eq_false h3
    rw [hlen] at h3
    rw [List.drop_of_length_le (by omega)] at hQ
    refine Eq.mp ?_ hQ
    kernel_rfl
  rename_i h3; have h3 : (i : Int) < (rpCL l).length := of_decide_eq_true h3
  rw [hlen] at h3
  obtain ⟨r, hrr⟩ : ∃ r, l[i]? = some r := ⟨l[i]'(by omega), List.getElem?_eq_getElem (by omega)⟩
  have hra : (rpCL l)[i]? = some (rpC r) := by simp [rpCL, hrr]
  have hok := hl.2 r (List.mem_of_getElem? hrr)
  rw [drop_get hrr, allG_cons] at i2 hQ
  have hi1 : IntKind.i64.wrap ((i : Int) + 1) = ((i + 1 : Nat) : Int) := by rw [IntWalk.i64_in _ (by omega)]; omega
  conv => whnf
  refine ⟨by show (0 : Int) ≤ (i : Nat); omega, by show ((i : Nat) : Int) < ((rpCL l).length : Nat); omega, _, hra, by kernel_rfl, ?_⟩
  conv => whnf
  cases h4 : decide (r.replica ≤ last) with
  | true =>
    rw [h4] at hQ
    conv => whnf
    refine Eq.mp ?_ hQ
    kernel_rfl
  | false =>
  rw [h4] at hQ i2
  conv => whnf
  refine ⟨eq2_25, rfl, rfl, ?_⟩
  replace hQ : Q (.ret (.bool (cond (!((r.bal.view == view) && (r.bal.turn == turn))) false (cond (rightR r n) (allG ⟨view, turn⟩ n r.replica (l.drop (i + 1))) false)))) := hQ
  replace i2 : allG ⟨view, turn⟩ n (-1) l = cond (!((r.bal.view == view) && (r.bal.turn == turn))) false (cond (rightR r n) (allG ⟨view, turn⟩ n r.replica (l.drop (i + 1))) false) := i2
  generalize (!((r.bal.view == view) && (r.bal.turn == turn))) = g at hQ i2 ⊢
  cases g with
  | true =>
    conv => whnf
    refine Eq.mp ?_ hQ
    kernel_rfl
  | false =>
  conv => whnf
  refine ⟨r, rfl, hok, ?_⟩
  generalize rightR r n = b at hQ i2 ⊢
  cases b with
  | false =>
    conv => whnf
    refine Eq.mp ?_ hQ
    kernel_rfl
  | true =>
    conv => whnf
    refine R_at ?_ ?_ (hR (i + 1, r.replica) ⟨by omega, i2⟩ (by dsimp only; omega))
    · rw [← hi1]; kernel_rfl
    · kernel_rfl
set_option maxRecDepth 100000 in
theorem sald {T : Tab} (hT : TGood Tryz.prog T) : SGood Tryz.prog 14 (flatT gal) := flatT_good gal_det gal_flat fun args Q h => by
  unfold gal at h
  split at h
  · skip
    obtain ⟨l, rfl, hl, hQ⟩ := h
    have t0 := ext_good hT (srd hT)
    have t1 := ext_good t0 (sqd t0)
    have t2 := ext_good t1 (srid t1)
    exact body_pure t2 mixedT Tryz.func14 (entersOf Tryz.func14 (by kernel_rfl) rfl) _ (fald_ok _ _ _ l hl T Q hQ (l.length + 1) (Nat.lt_succ_self _))
  · exact h.elim

end Go.Abs

/-
ChooseAlls: what its code comes to.
-/
namespace Go.Abs
open Go Go.Proofs


def g4a : GSpec := fun args K => match args with
  | [.agg [.int .i64 _, .int .i64 _], .slice es, .int .i64 _] => ∃ l : List RpV, es = rpCL l ∧ OkRl l ∧ K (.ret (.bool true))
  | _ => False
theorem g4a_det (args : List AV) : Det (g4a args) := by
  unfold g4a
  repeat' (first | exact Det.no | exact Det.at _ | refine Det.and ?_ | refine Det.ex fun _ => ?_ | refine Det.cond ?_ ?_ | split)

def T4a (T : Tab) : Tab := ext (ext (ext (ext T 8 (flatT galive)) 9 (pureT g44)) 13 (flatT gal)) 14 (flatT gal)
theorem T4a_good {T : Tab} (hT : TGood Tryz.prog T) : TGood Tryz.prog (T4a T) := by
  have t0 := ext_good hT (salive hT)
  have t1 := ext_good t0 (s44 t0)
  have t2 := ext_good t1 (sal t1)
  exact ext_good t2 (sald t2)
set_option maxRecDepth 100000 in
set_option maxHeartbeats 16000000 in
theorem f4a_ok (view turn n : Int) (l : List RpV) (hl : OkRl l) (T : Tab) (Q : AOut → Prop) (hQ : Q (.ret (.bool true))) (N : Nat) (hN : l.length < N) :
    abody Tryz.prog (T4a T) 0 N Tryz.f4 [.agg [.int .i64 view, .int .i64 turn], .slice (rpCL l), .int .i64 n] [] (fun out Hs => Q (frzO Hs out)) := by
  have hlen : (rpCL l).length = l.length := by simp [rpCL]
  have hl1 := hl.1
  conv => whnf
  refine aloop_at ?_ ?_ (aloop_inv (σ := Nat × List RpV) (fun s => ((sp 0 34 [(1, .slice (rpCL l)), (2, .int .i64 n), (3, .ptr 0 0), (7, rowV1 (rpCL s.2)), (13, .slice (rpCL l)), (14, .int .i64 ((rpCL l).length : Nat)), (15, .int .i64 (s.1 : Nat))]), .var [.int .i64 view, .int .i64 turn] :: rowH1 28 8 (rpCL s.2)))
    (fun s => s.1 ≤ l.length ∧ s.2 = l.take s.1) (fun s => l.length - s.1) ?_ N (0, []) ⟨Nat.zero_le _, rfl⟩ (by dsimp only; omega))
  · kernel_rfl
  · kernel_rfl
  rintro ⟨i, acc⟩ ⟨i1, i2⟩ R hR
  dsimp only at i1 i2
  have hcl : (rpCL acc).length = i := by rw [i2]; simp [rpCL]; omega
  rcases acc with _ | ⟨x, xs⟩
  · conv => whnf
    split
    rotate_left
    · rename_i h3; have h3 : ¬ (i : Int) < (rpCL l).length := of_decide_eq_false h3
      rw [hlen] at h3
      clear hR
      have hacc : [] = l := by rw [i2, show i = l.length by omega, List.take_length]
      subst hacc
      conv => whnf
      refine ⟨[], ?_⟩
      conv => whnf
      refine ⟨[], rfl, hl, ?_⟩
      generalize hb : allB ⟨view, turn⟩ [] n = b
      conv => whnf
      repeat (refine ⟨rfl, ?_⟩; conv => whnf)
      refine ⟨[], rfl, hl, ?_⟩
      rw [hb]
      clear hb
      cases b
      all_goals
        conv => whnf
        repeat (refine ⟨rfl, ?_⟩; conv => whnf)
        refine Eq.mp ?_ hQ
        kernel_rfl
    rename_i h3; have h3 : (i : Int) < (rpCL l).length := of_decide_eq_true h3
    rw [hlen] at h3
    obtain ⟨r, hrr⟩ : ∃ r, l[i]? = some r := ⟨l[i]'(by omega), List.getElem?_eq_getElem (by omega)⟩
    have hra : (rpCL l)[i]? = some (rpC r) := by simp [rpCL, hrr]
    have hok := hl.2 r (List.mem_of_getElem? hrr)
    have hi1 : IntKind.i64.wrap ((i : Int) + 1) = ((i + 1 : Nat) : Int) := by rw [IntWalk.i64_in _ (by omega)]; omega
    have hnx : l.take (i + 1) = [] ++ [r] := by rw [List.take_add_one, hrr, ← i2]; rfl
    conv => whnf
    refine ⟨by show (0 : Int) ≤ (i : Nat); omega, by show ((i : Nat) : Int) < ((rpCL l).length : Nat); omega, _, hra, by kernel_rfl, ?_⟩
    conv => whnf
    refine ⟨r, rfl, hok.ok, ?_⟩
    conv => whnf
    refine ⟨fits_at (ys' := [rpC r]) (by kernel_rfl) (fits_lt (by kernel_rfl) (by kernel_rfl) (Nat.lt_of_le_of_lt (Nat.le_of_eq hcl) (by omega))), ?_⟩
    conv => whnf
    refine R_at ?_ ?_ (hR (i + 1, [r]) ⟨by omega, hnx.symm⟩ (by dsimp only; omega))
    · rw [← hi1]; kernel_rfl
    · kernel_rfl
  · conv => whnf
    split
    rotate_left
    · rename_i h3; have h3 : ¬ (i : Int) < (rpCL l).length := of_decide_eq_false h3
      rw [hlen] at h3
      clear hR
      have hacc : (x :: xs) = l := by rw [i2, show i = l.length by omega, List.take_length]
      subst hacc
      conv => whnf
      refine ⟨[], ?_⟩
      conv => whnf
      refine ⟨(x :: xs), rfl, hl, ?_⟩
      generalize hb : allB ⟨view, turn⟩ (x :: xs) n = b
      conv => whnf
      repeat (refine ⟨rfl, ?_⟩; conv => whnf)
      refine ⟨(x :: xs), rfl, hl, ?_⟩
      rw [hb]
      clear hb
      cases b
      all_goals
        conv => whnf
        repeat (refine ⟨rfl, ?_⟩; conv => whnf)
        refine Eq.mp ?_ hQ
        kernel_rfl
    rename_i h3; have h3 : (i : Int) < (rpCL l).length := of_decide_eq_true h3
    rw [hlen] at h3
    obtain ⟨r, hrr⟩ : ∃ r, l[i]? = some r := ⟨l[i]'(by omega), List.getElem?_eq_getElem (by omega)⟩
    have hra : (rpCL l)[i]? = some (rpC r) := by simp [rpCL, hrr]
    have hok := hl.2 r (List.mem_of_getElem? hrr)
    have hi1 : IntKind.i64.wrap ((i : Int) + 1) = ((i + 1 : Nat) : Int) := by rw [IntWalk.i64_in _ (by omega)]; omega
    have hnx : l.take (i + 1) = (x :: xs) ++ [r] := by rw [List.take_add_one, hrr, ← i2]; rfl
    conv => whnf
    refine ⟨by show (0 : Int) ≤ (i : Nat); omega, by show ((i : Nat) : Int) < ((rpCL l).length : Nat); omega, _, hra, by kernel_rfl, ?_⟩
    conv => whnf
    refine ⟨r, rfl, hok.ok, ?_⟩
    conv => whnf
    refine ⟨fits_at (ys' := [rpC r]) (by kernel_rfl) (fits_lt (by kernel_rfl) (by kernel_rfl) (Nat.lt_of_le_of_lt (Nat.le_of_eq hcl) (by omega))), ?_⟩
    conv => whnf
    refine R_at ?_ ?_ (hR (i + 1, (x :: xs) ++ [r]) ⟨by omega, hnx.symm⟩ (by dsimp only; omega))
    · rw [← hi1]; kernel_rfl
    · show _ = HO.var [.int .i64 view, .int .i64 turn] :: rowH1 28 8 (rpCL ((x :: xs) ++ [r]))
      rw [show rpCL ((x :: xs) ++ [r]) = rpCL (x :: xs) ++ [rpC r] by simp [rpCL]]
      kernel_rfl

set_option maxRecDepth 100000 in
theorem s4a {T : Tab} (hT : TGood Tryz.prog T) : SGood Tryz.prog 4 (pureT g4a) := pureT_good g4a_det fun args Q h => by
  unfold g4a at h
  split at h
  · skip
    obtain ⟨l, rfl, hl, hQ⟩ := h
    exact body_pure (T4a_good hT) mixedT Tryz.func4 (entersOf Tryz.func4 (by kernel_rfl) rfl) _ (f4a_ok _ _ _ l hl T Q hQ (l.length + 1) (Nat.lt_succ_self _))
  · exact h.elim

end Go.Abs

