/-
msg.read of numbers, requests; (*msg.reader).prep; msg.read of preps are what they come to.
-/
import Derived.Test.YtmainkiflkagjaaGreatDoorAbw10
import Derived.Recover
import Derived.WalkKit
namespace Go.Abs
open Go Go.Proofs


def g108 (l : List Int) : RM AV := RM.map (fun x => .slice (inCL x)) (rMany l (rNum l))
theorem g108_closed (l : List Int) (a : Int) (v : AV) (a' : Int) (h : g108 l a = (some v, a')) : closed v = true := by
  unfold g108 RM.map at h
  split at h
  · cases h; rfl
  · cases h

set_option maxRecDepth 100000 in
set_option maxHeartbeats 8000000 in
theorem f108_ok (l : List Int) (a0 : Int) (hl : OkL l) (T : Tab) (Q : AOut → Int → Prop) (hQ : rK (g108 l a0) (fun v a' => Q (.ret v) a') (fun a' => Q (.pan eM) a')) (N : Nat) (hN : 64 < N) :
    abody Tryz.prog (ext T 58 (readerT g59)) 1 N Tryz.f103 [.ptr 0 0, .func (.func 58) [.ptr 0 0] []] [rvar l a0] (fun out Hs => ∃ a', Hs[0]? = some (rvar l a') ∧ Q (frzO Hs out) a') := by
  conv => whnf
  refine ⟨l, rfl, hl, ?_⟩
  rcases h1 : rNum l a0 with ⟨_ | n, a1⟩
  · rw [show g59 l a0 = (none, a1) by simp only [g59, RM.map, h1]]
    rw [show g108 l a0 = (none, a1) by simp only [g108, rMany, RM.map, RM.bind, h1]] at hQ
    conv => whnf
    refine ⟨a1, by kernel_rfl, Eq.mp ?_ hQ⟩
    kernel_rfl
  rw [show g59 l a0 = (some (.int .i64 n), a1) by simp only [g59, RM.map, h1]]
  have hn0 := rNum_nonneg h1
  conv => whnf
  split
  · rename_i h2; have h2 : n > 64 := of_decide_eq_true h2
    rw [show g108 l a0 = (none, a1) by simp only [g108, rMany, RM.map, RM.bind, h1, if_pos h2]] at hQ
    refine ⟨a1, by kernel_rfl, Eq.mp ?_ hQ⟩
    kernel_rfl
  rename_i h2; have h2 : ¬ n > 64 := of_decide_eq_false h2
  have hG : g108 l a0 = RM.map (fun x => .slice (inCL x)) (rList (rNum l) n.toNat) a1 := by
    simp only [g108, rMany, RM.map, RM.bind, h1, if_neg h2]
  rw [hG] at hQ
  clear hG h1
  conv => whnf
  refine aloop_at ?_ ?_ (aloop_inv (σ := Nat × List Int × Int) (fun s => ((sp 0 22 [(1, .func (.func 58) [.ptr 0 0] []), (6, rowV1 (inCL s.2.1)), (12, .int .i64 n), (13, .int .i64 (s.1 : Nat))]), rvar l s.2.2 :: rowH1 3 1 (inCL s.2.1)))
    (fun s => s.1 ≤ n.toNat ∧ s.2.1.length = s.1 ∧ rList (rNum l) n.toNat a1 = RM.map (fun x => s.2.1 ++ x) (rList (rNum l) (n.toNat - s.1)) s.2.2) (fun s => n.toNat - s.1) ?_ N (0, [], a1) ⟨Nat.zero_le _, rfl, by simp [RM.map]; rcases rList (rNum l) n.toNat a1 with ⟨_ | _, _⟩ <;> rfl⟩ (by dsimp only; omega))
  · kernel_rfl
  · kernel_rfl
  clear hN
  rintro ⟨i, acc, a⟩ ⟨i1, i2, i3⟩ R hR
  dsimp only at i1 i2 i3
  have hcl : (inCL acc).length = i := by simp [inCL, i2]
  rcases acc with _ | ⟨x, xs⟩
  · conv => whnf
    split
    rotate_left
    · rename_i h3; have h3 : ¬ (i : Int) < n := of_decide_eq_false h3
      rw [show n.toNat - i = 0 by omega] at i3
      rw [show RM.map (fun x => AV.slice (inCL x)) (rList (rNum l) n.toNat) a1 = (some (.slice (inCL [])), a) by simp only [RM.map, i3, rList, RM.pure, List.append_nil]] at hQ
      conv => whnf
      refine ⟨a, by kernel_rfl, Eq.mp ?_ hQ⟩
      kernel_rfl
    rename_i h3; have h3 : (i : Int) < n := of_decide_eq_true h3
    have hi1 : IntKind.i64.wrap ((i : Int) + 1) = ((i + 1 : Nat) : Int) := by rw [IntWalk.i64_in _ (by omega)]; omega
    obtain ⟨k, hk⟩ : ∃ k, n.toNat - i = k + 1 := ⟨n.toNat - i - 1, by omega⟩
    have hk2 : n.toNat - (i + 1) = k := by omega
    rw [hk] at i3
    conv => whnf
    refine ⟨l, rfl, hl, ?_⟩
    rcases h4 : rNum l a with ⟨_ | v, a2⟩
    · rw [show g59 l a = (none, a2) by simp only [g59, RM.map, h4]]
      rw [show RM.map (fun x => AV.slice (inCL x)) (rList (rNum l) n.toNat) a1 = (none, a2) by simp only [RM.map, i3, rList, RM.bind, h4]] at hQ
      conv => whnf
      refine ⟨a2, by kernel_rfl, Eq.mp ?_ hQ⟩
      kernel_rfl
    rw [show g59 l a = (some (.int .i64 v), a2) by simp only [g59, RM.map, h4]]
    have hx : rList (rNum l) (k + 1) a = RM.map (fun x => v :: x) (rList (rNum l) k) a2 := by
      simp only [rList, RM.map, RM.bind, h4, RM.pure]
    conv => whnf
    refine ⟨fits_at (ys' := [inC v]) (by kernel_rfl) (fits_one' (by kernel_rfl) (by kernel_rfl) (by omega)), ?_⟩
    conv => whnf
    refine R_at ?_ ?_ (hR (i + 1, [v], a2) ⟨by omega, by simp only [List.length_cons, List.length_nil] at *; omega, ?_⟩ (by dsimp only; omega))
    · rw [← hi1]; kernel_rfl
    · kernel_rfl
    · rw [hk2, i3]
      show RM.map _ (rList (rNum l) (k + 1)) a = _
      simp only [RM.map] at hx ⊢
      rw [hx]
      rcases rList (rNum l) k a2 with ⟨_ | y, b⟩ <;> simp
  · conv => whnf
    split
    rotate_left
    · rename_i h3; have h3 : ¬ (i : Int) < n := of_decide_eq_false h3
      rw [show n.toNat - i = 0 by omega] at i3
      rw [show RM.map (fun x => AV.slice (inCL x)) (rList (rNum l) n.toNat) a1 = (some (.slice (inCL (x :: xs))), a) by simp only [RM.map, i3, rList, RM.pure, List.append_nil]] at hQ
      conv => whnf
      refine ⟨a, by kernel_rfl, Eq.mp ?_ hQ⟩
      kernel_rfl
    rename_i h3; have h3 : (i : Int) < n := of_decide_eq_true h3
    have hi1 : IntKind.i64.wrap ((i : Int) + 1) = ((i + 1 : Nat) : Int) := by rw [IntWalk.i64_in _ (by omega)]; omega
    obtain ⟨k, hk⟩ : ∃ k, n.toNat - i = k + 1 := ⟨n.toNat - i - 1, by omega⟩
    have hk2 : n.toNat - (i + 1) = k := by omega
    rw [hk] at i3
    conv => whnf
    refine ⟨l, rfl, hl, ?_⟩
    rcases h4 : rNum l a with ⟨_ | v, a2⟩
    · rw [show g59 l a = (none, a2) by simp only [g59, RM.map, h4]]
      rw [show RM.map (fun x => AV.slice (inCL x)) (rList (rNum l) n.toNat) a1 = (none, a2) by simp only [RM.map, i3, rList, RM.bind, h4]] at hQ
      conv => whnf
      refine ⟨a2, by kernel_rfl, Eq.mp ?_ hQ⟩
      kernel_rfl
    rw [show g59 l a = (some (.int .i64 v), a2) by simp only [g59, RM.map, h4]]
    have hx : rList (rNum l) (k + 1) a = RM.map (fun x => v :: x) (rList (rNum l) k) a2 := by
      simp only [rList, RM.map, RM.bind, h4, RM.pure]
    conv => whnf
    refine ⟨fits_at (ys' := [inC v]) (by kernel_rfl) (fits_one' (by kernel_rfl) (by kernel_rfl) (Nat.le_trans (Nat.le_of_eq hcl) (by omega))), ?_⟩
    conv => whnf
    refine R_at ?_ ?_ (hR (i + 1, ((x :: xs) ++ [v]), a2) ⟨by omega, by simp only [List.length_append, List.length_cons, List.length_nil] at *; omega, ?_⟩ (by dsimp only; omega))
    · rw [← hi1]; kernel_rfl
    · show _ = rvar l a2 :: rowH1 3 1 (inCL ((x :: xs) ++ [v]))
      rw [show inCL ((x :: xs) ++ [v]) = inCL (x :: xs) ++ [inC v] by simp [inCL]]
      kernel_rfl
    · rw [hk2, i3]
      show RM.map _ (rList (rNum l) (k + 1)) a = _
      simp only [RM.map] at hx ⊢
      rw [hx]
      rcases rList (rNum l) k a2 with ⟨_ | y, b⟩ <;> simp

set_option maxRecDepth 100000 in
theorem s108 {T : Tab} (hT : TGood Tryz.prog T) : SGood Tryz.prog 103 (readT 58 g108) := readT_good g108_closed fun l a Q hl hQ => by
  have t0 := ext_good hT (s59 hT)
  exact abody_sound t0.ok t0.ang t0.mono mixedT Tryz.func103 (entersOf Tryz.func103 (by kernel_rfl) rfl) (f108_ok l a hl T Q hQ 65 (by omega))


def g109 (l : List Int) : RM AV := RM.map (fun x => .slice (rqCL x)) (rMany l (rReq l))
theorem g109_closed (l : List Int) (a : Int) (v : AV) (a' : Int) (h : g109 l a = (some v, a')) : closed v = true := by
  unfold g109 RM.map at h
  split at h
  · cases h; rfl
  · cases h

set_option maxRecDepth 100000 in
set_option maxHeartbeats 8000000 in
theorem f109_ok (l : List Int) (a0 : Int) (hl : OkL l) (T : Tab) (Q : AOut → Int → Prop) (hQ : rK (g109 l a0) (fun v a' => Q (.ret v) a') (fun a' => Q (.pan eM) a')) (N : Nat) (hN : 64 < N) :
    abody Tryz.prog (ext (ext T 58 (readerT g59)) 99 (readerT g104)) 1 N Tryz.f104 [.ptr 0 0, .func (.func 99) [.ptr 0 0] []] [rvar l a0] (fun out Hs => ∃ a', Hs[0]? = some (rvar l a') ∧ Q (frzO Hs out) a') := by
  conv => whnf
  refine ⟨l, rfl, hl, ?_⟩
  rcases h1 : rNum l a0 with ⟨_ | n, a1⟩
  · rw [show g59 l a0 = (none, a1) by simp only [g59, RM.map, h1]]
    rw [show g109 l a0 = (none, a1) by simp only [g109, rMany, RM.map, RM.bind, h1]] at hQ
    conv => whnf
    refine ⟨a1, by kernel_rfl, Eq.mp ?_ hQ⟩
    kernel_rfl
  rw [show g59 l a0 = (some (.int .i64 n), a1) by simp only [g59, RM.map, h1]]
  have hn0 := rNum_nonneg h1
  conv => whnf
  split
  · rename_i h2; have h2 : n > 64 := of_decide_eq_true h2
    rw [show g109 l a0 = (none, a1) by simp only [g109, rMany, RM.map, RM.bind, h1, if_pos h2]] at hQ
    refine ⟨a1, by kernel_rfl, Eq.mp ?_ hQ⟩
    kernel_rfl
  rename_i h2; have h2 : ¬ n > 64 := of_decide_eq_false h2
  have hG : g109 l a0 = RM.map (fun x => .slice (rqCL x)) (rList (rReq l) n.toNat) a1 := by
    simp only [g109, rMany, RM.map, RM.bind, h1, if_neg h2]
  rw [hG] at hQ
  clear hG h1
  conv => whnf
  refine aloop_at ?_ ?_ (aloop_inv (σ := Nat × List RqV × Int) (fun s => ((sp 0 22 [(1, .func (.func 99) [.ptr 0 0] []), (6, rowV1 (rqCL s.2.1)), (12, .int .i64 n), (13, .int .i64 (s.1 : Nat))]), rvar l s.2.2 :: rowH1 39 4 (rqCL s.2.1)))
    (fun s => s.1 ≤ n.toNat ∧ s.2.1.length = s.1 ∧ rList (rReq l) n.toNat a1 = RM.map (fun x => s.2.1 ++ x) (rList (rReq l) (n.toNat - s.1)) s.2.2) (fun s => n.toNat - s.1) ?_ N (0, [], a1) ⟨Nat.zero_le _, rfl, by simp [RM.map]; rcases rList (rReq l) n.toNat a1 with ⟨_ | _, _⟩ <;> rfl⟩ (by dsimp only; omega))
  · kernel_rfl
  · kernel_rfl
  clear hN
  rintro ⟨i, acc, a⟩ ⟨i1, i2, i3⟩ R hR
  dsimp only at i1 i2 i3
  have hcl : (rqCL acc).length = i := by simp [rqCL, i2]
  rcases acc with _ | ⟨x, xs⟩
  · conv => whnf
    split
    rotate_left
    · rename_i h3; have h3 : ¬ (i : Int) < n := of_decide_eq_false h3
      rw [show n.toNat - i = 0 by omega] at i3
      rw [show RM.map (fun x => AV.slice (rqCL x)) (rList (rReq l) n.toNat) a1 = (some (.slice (rqCL [])), a) by simp only [RM.map, i3, rList, RM.pure, List.append_nil]] at hQ
      conv => whnf
      refine ⟨a, by kernel_rfl, Eq.mp ?_ hQ⟩
      kernel_rfl
    rename_i h3; have h3 : (i : Int) < n := of_decide_eq_true h3
    have hi1 : IntKind.i64.wrap ((i : Int) + 1) = ((i + 1 : Nat) : Int) := by rw [IntWalk.i64_in _ (by omega)]; omega
    obtain ⟨k, hk⟩ : ∃ k, n.toNat - i = k + 1 := ⟨n.toNat - i - 1, by omega⟩
    have hk2 : n.toNat - (i + 1) = k := by omega
    rw [hk] at i3
    conv => whnf
    refine ⟨l, rfl, hl, ?_⟩
    rcases h4 : rReq l a with ⟨_ | v, a2⟩
    · rw [show g104 l a = (none, a2) by simp only [g104, RM.map, h4]]
      rw [show RM.map (fun x => AV.slice (rqCL x)) (rList (rReq l) n.toNat) a1 = (none, a2) by simp only [RM.map, i3, rList, RM.bind, h4]] at hQ
      conv => whnf
      refine ⟨a2, by kernel_rfl, Eq.mp ?_ hQ⟩
      kernel_rfl
    rw [show g104 l a = (some (.agg (rqC v)), a2) by simp only [g104, RM.map, h4]]
    have hx : rList (rReq l) (k + 1) a = RM.map (fun x => v :: x) (rList (rReq l) k) a2 := by
      simp only [rList, RM.map, RM.bind, h4, RM.pure]
    conv => whnf
    refine ⟨fits_at (ys' := [rqC v]) (by kernel_rfl) (fits_one' (by kernel_rfl) (by kernel_rfl) (by omega)), ?_⟩
    conv => whnf
    refine R_at ?_ ?_ (hR (i + 1, [v], a2) ⟨by omega, by simp only [List.length_cons, List.length_nil] at *; omega, ?_⟩ (by dsimp only; omega))
    · rw [← hi1]; kernel_rfl
    · kernel_rfl
    · rw [hk2, i3]
      show RM.map _ (rList (rReq l) (k + 1)) a = _
      simp only [RM.map] at hx ⊢
      rw [hx]
      rcases rList (rReq l) k a2 with ⟨_ | y, b⟩ <;> simp
  · conv => whnf
    split
    rotate_left
    · rename_i h3; have h3 : ¬ (i : Int) < n := of_decide_eq_false h3
      rw [show n.toNat - i = 0 by omega] at i3
      rw [show RM.map (fun x => AV.slice (rqCL x)) (rList (rReq l) n.toNat) a1 = (some (.slice (rqCL (x :: xs))), a) by simp only [RM.map, i3, rList, RM.pure, List.append_nil]] at hQ
      conv => whnf
      refine ⟨a, by kernel_rfl, Eq.mp ?_ hQ⟩
      kernel_rfl
    rename_i h3; have h3 : (i : Int) < n := of_decide_eq_true h3
    have hi1 : IntKind.i64.wrap ((i : Int) + 1) = ((i + 1 : Nat) : Int) := by rw [IntWalk.i64_in _ (by omega)]; omega
    obtain ⟨k, hk⟩ : ∃ k, n.toNat - i = k + 1 := ⟨n.toNat - i - 1, by omega⟩
    have hk2 : n.toNat - (i + 1) = k := by omega
    rw [hk] at i3
    conv => whnf
    refine ⟨l, rfl, hl, ?_⟩
    rcases h4 : rReq l a with ⟨_ | v, a2⟩
    · rw [show g104 l a = (none, a2) by simp only [g104, RM.map, h4]]
      rw [show RM.map (fun x => AV.slice (rqCL x)) (rList (rReq l) n.toNat) a1 = (none, a2) by simp only [RM.map, i3, rList, RM.bind, h4]] at hQ
      conv => whnf
      refine ⟨a2, by kernel_rfl, Eq.mp ?_ hQ⟩
      kernel_rfl
    rw [show g104 l a = (some (.agg (rqC v)), a2) by simp only [g104, RM.map, h4]]
    have hx : rList (rReq l) (k + 1) a = RM.map (fun x => v :: x) (rList (rReq l) k) a2 := by
      simp only [rList, RM.map, RM.bind, h4, RM.pure]
    conv => whnf
    refine ⟨fits_at (ys' := [rqC v]) (by kernel_rfl) (fits_one' (by kernel_rfl) (by kernel_rfl) (Nat.le_trans (Nat.le_of_eq hcl) (by omega))), ?_⟩
    conv => whnf
    refine R_at ?_ ?_ (hR (i + 1, ((x :: xs) ++ [v]), a2) ⟨by omega, by simp only [List.length_append, List.length_cons, List.length_nil] at *; omega, ?_⟩ (by dsimp only; omega))
    · rw [← hi1]; kernel_rfl
    · show _ = rvar l a2 :: rowH1 39 4 (rqCL ((x :: xs) ++ [v]))
      rw [show rqCL ((x :: xs) ++ [v]) = rqCL (x :: xs) ++ [rqC v] by simp [rqCL]]
      kernel_rfl
    · rw [hk2, i3]
      show RM.map _ (rList (rReq l) (k + 1)) a = _
      simp only [RM.map] at hx ⊢
      rw [hx]
      rcases rList (rReq l) k a2 with ⟨_ | y, b⟩ <;> simp

set_option maxRecDepth 100000 in
theorem s109 {T : Tab} (hT : TGood Tryz.prog T) : SGood Tryz.prog 104 (readT 99 g109) := readT_good g109_closed fun l a Q hl hQ => by
  have t0 := ext_good hT (s59 hT)
  have t1 := ext_good t0 (s104 t0)
  exact abody_sound t1.ok t1.ang t1.mono mixedT Tryz.func104 (entersOf Tryz.func104 (by kernel_rfl) rfl) (f109_ok l a hl T Q hQ 65 (by omega))


def rPrep (l : List Int) : RM PrV := RM.bind (rNum l) fun v1 => RM.bind (rBal l) fun v2 => RM.bind (rReq l) fun v3 => RM.bind (rMany l (rVote l)) fun v4 => RM.pure (⟨v1, v2, v3, v4⟩ : PrV)
def g132 (l : List Int) : RM AV := RM.map (fun x => .agg (prC x)) (rPrep l)
theorem g132_closed (l : List Int) (a : Int) (v : AV) (a' : Int) (h : g132 l a = (some v, a')) : closed v = true := by
  unfold g132 RM.map at h
  split at h
  · cases h; rfl
  · cases h

set_option maxRecDepth 100000 in
set_option maxHeartbeats 4000000 in
theorem f132_ok (l : List Int) (a0 : Int) (hl : OkL l) (T : Tab) (Q : AOut → Int → Prop) (hQ : rK (g132 l a0) (fun v a' => Q (.ret v) a') (fun a' => Q (.pan eM) a')) (N : Nat) :
    abody Tryz.prog (ext (ext (ext (ext T 58 (readerT g59)) 98 (readerT g103)) 99 (readerT g104)) 101 (readT 102 g106)) 1 N Tryz.f145 [.ptr 0 0] [rvar l a0] (fun out Hs => ∃ a', Hs[0]? = some (rvar l a') ∧ Q (frzO Hs out) a') := by
  conv => whnf
  refine ⟨l, rfl, hl, ?_⟩
  rcases h1 : rNum l a0 with ⟨_ | v1, a1⟩
  · rw [show g59 l a0 = (none, a1) by simp only [g59, RM.map, h1]]
    rw [show g132 l a0 = (none, a1) by simp only [g132, rPrep, RM.map, RM.bind, h1]] at hQ
    conv => whnf
    refine ⟨a1, by kernel_rfl, Eq.mp ?_ hQ⟩
    kernel_rfl
  rw [show g59 l a0 = (some (.int .i64 v1), a1) by simp only [g59, RM.map, h1]]
  conv => whnf
  refine ⟨l, rfl, hl, ?_⟩
  rcases h2 : rBal l a1 with ⟨_ | v2, a2⟩
  · rw [show g103 l a1 = (none, a2) by simp only [g103, RM.map, h2]]
    rw [show g132 l a0 = (none, a2) by simp only [g132, rPrep, RM.map, RM.bind, h1, h2]] at hQ
    conv => whnf
    refine ⟨a2, by kernel_rfl, Eq.mp ?_ hQ⟩
    kernel_rfl
  rw [show g103 l a1 = (some (.agg (balC v2)), a2) by simp only [g103, RM.map, h2]]
  conv => whnf
  refine ⟨l, rfl, hl, ?_⟩
  rcases h3 : rReq l a2 with ⟨_ | v3, a3⟩
  · rw [show g104 l a2 = (none, a3) by simp only [g104, RM.map, h3]]
    rw [show g132 l a0 = (none, a3) by simp only [g132, rPrep, RM.map, RM.bind, h1, h2, h3]] at hQ
    conv => whnf
    refine ⟨a3, by kernel_rfl, Eq.mp ?_ hQ⟩
    kernel_rfl
  rw [show g104 l a2 = (some (.agg (rqC v3)), a3) by simp only [g104, RM.map, h3]]
  conv => whnf
  refine ⟨l, rfl, hl, ?_⟩
  rcases h4 : rMany l (rVote l) a3 with ⟨_ | v4, a4⟩
  · rw [show g106 l a3 = (none, a4) by simp only [g106, RM.map, h4]]
    rw [show g132 l a0 = (none, a4) by simp only [g132, rPrep, RM.map, RM.bind, h1, h2, h3, h4]] at hQ
    conv => whnf
    refine ⟨a4, by kernel_rfl, Eq.mp ?_ hQ⟩
    kernel_rfl
  rw [show g106 l a3 = (some (.slice (vtCL v4)), a4) by simp only [g106, RM.map, h4]]
  conv => whnf
  rw [show g132 l a0 = (some ((fun x => .agg (prC x)) (⟨v1, v2, v3, v4⟩ : PrV)), a4) by simp only [g132, rPrep, RM.map, RM.bind, RM.pure, h1, h2, h3, h4]] at hQ
  refine ⟨a4, by kernel_rfl, Eq.mp ?_ hQ⟩
  kernel_rfl

set_option maxRecDepth 100000 in
theorem s132 {T : Tab} (hT : TGood Tryz.prog T) : SGood Tryz.prog 145 (readerT g132) := readerT_good g132_closed fun l a Q hl hQ => by
  have t0 := ext_good hT (s59 hT)
  have t1 := ext_good t0 (s103 t0)
  have t2 := ext_good t1 (s104 t1)
  have t3 := ext_good t2 (s106 t2)
  exact abody_sound t3.ok t3.ang t3.mono mixedT Tryz.func145 (entersOf Tryz.func145 (by kernel_rfl) rfl) (f132_ok l a hl T Q hQ 0)


def g131 (l : List Int) : RM AV := RM.map (fun x => .slice (prCL x)) (rMany l (rPrep l))
theorem g131_closed (l : List Int) (a : Int) (v : AV) (a' : Int) (h : g131 l a = (some v, a')) : closed v = true := by
  unfold g131 RM.map at h
  split at h
  · cases h; rfl
  · cases h

set_option maxRecDepth 100000 in
set_option maxHeartbeats 8000000 in
theorem f131_ok (l : List Int) (a0 : Int) (hl : OkL l) (T : Tab) (Q : AOut → Int → Prop) (hQ : rK (g131 l a0) (fun v a' => Q (.ret v) a') (fun a' => Q (.pan eM) a')) (N : Nat) (hN : 64 < N) :
    abody Tryz.prog (ext (ext T 58 (readerT g59)) 145 (readerT g132)) 1 N Tryz.f144 [.ptr 0 0, .func (.func 145) [.ptr 0 0] []] [rvar l a0] (fun out Hs => ∃ a', Hs[0]? = some (rvar l a') ∧ Q (frzO Hs out) a') := by
  conv => whnf
  refine ⟨l, rfl, hl, ?_⟩
  rcases h1 : rNum l a0 with ⟨_ | n, a1⟩
  · rw [show g59 l a0 = (none, a1) by simp only [g59, RM.map, h1]]
    rw [show g131 l a0 = (none, a1) by simp only [g131, rMany, RM.map, RM.bind, h1]] at hQ
    conv => whnf
    refine ⟨a1, by kernel_rfl, Eq.mp ?_ hQ⟩
    kernel_rfl
  rw [show g59 l a0 = (some (.int .i64 n), a1) by simp only [g59, RM.map, h1]]
  have hn0 := rNum_nonneg h1
  conv => whnf
  split
  · rename_i h2; have h2 : n > 64 := of_decide_eq_true h2
    rw [show g131 l a0 = (none, a1) by simp only [g131, rMany, RM.map, RM.bind, h1, if_pos h2]] at hQ
    refine ⟨a1, by kernel_rfl, Eq.mp ?_ hQ⟩
    kernel_rfl
  rename_i h2; have h2 : ¬ n > 64 := of_decide_eq_false h2
  have hG : g131 l a0 = RM.map (fun x => .slice (prCL x)) (rList (rPrep l) n.toNat) a1 := by
    simp only [g131, rMany, RM.map, RM.bind, h1, if_neg h2]
  rw [hG] at hQ
  clear hG h1
  conv => whnf
  refine aloop_at ?_ ?_ (aloop_inv (σ := Nat × List PrV × Int) (fun s => ((sp 0 22 [(1, .func (.func 145) [.ptr 0 0] []), (6, rowV1 (prCL s.2.1)), (12, .int .i64 n), (13, .int .i64 (s.1 : Nat))]), rvar l s.2.2 :: rowH1 62 8 (prCL s.2.1)))
    (fun s => s.1 ≤ n.toNat ∧ s.2.1.length = s.1 ∧ rList (rPrep l) n.toNat a1 = RM.map (fun x => s.2.1 ++ x) (rList (rPrep l) (n.toNat - s.1)) s.2.2) (fun s => n.toNat - s.1) ?_ N (0, [], a1) ⟨Nat.zero_le _, rfl, by simp [RM.map]; rcases rList (rPrep l) n.toNat a1 with ⟨_ | _, _⟩ <;> rfl⟩ (by dsimp only; omega))
  · kernel_rfl
  · kernel_rfl
  clear hN
  rintro ⟨i, acc, a⟩ ⟨i1, i2, i3⟩ R hR
  dsimp only at i1 i2 i3
  have hcl : (prCL acc).length = i := by simp [prCL, i2]
  rcases acc with _ | ⟨x, xs⟩
  · conv => whnf
    split
    rotate_left
    · rename_i h3; have h3 : ¬ (i : Int) < n := of_decide_eq_false h3
      rw [show n.toNat - i = 0 by omega] at i3
      rw [show RM.map (fun x => AV.slice (prCL x)) (rList (rPrep l) n.toNat) a1 = (some (.slice (prCL [])), a) by simp only [RM.map, i3, rList, RM.pure, List.append_nil]] at hQ
      conv => whnf
      refine ⟨a, by kernel_rfl, Eq.mp ?_ hQ⟩
      kernel_rfl
    rename_i h3; have h3 : (i : Int) < n := of_decide_eq_true h3
    have hi1 : IntKind.i64.wrap ((i : Int) + 1) = ((i + 1 : Nat) : Int) := by rw [IntWalk.i64_in _ (by omega)]; omega
    obtain ⟨k, hk⟩ : ∃ k, n.toNat - i = k + 1 := ⟨n.toNat - i - 1, by omega⟩
    have hk2 : n.toNat - (i + 1) = k := by omega
    rw [hk] at i3
    conv => whnf
    refine ⟨l, rfl, hl, ?_⟩
    rcases h4 : rPrep l a with ⟨_ | v, a2⟩
    · rw [show g132 l a = (none, a2) by simp only [g132, RM.map, h4]]
      rw [show RM.map (fun x => AV.slice (prCL x)) (rList (rPrep l) n.toNat) a1 = (none, a2) by simp only [RM.map, i3, rList, RM.bind, h4]] at hQ
      conv => whnf
      refine ⟨a2, by kernel_rfl, Eq.mp ?_ hQ⟩
      kernel_rfl
    rw [show g132 l a = (some (.agg (prC v)), a2) by simp only [g132, RM.map, h4]]
    have hx : rList (rPrep l) (k + 1) a = RM.map (fun x => v :: x) (rList (rPrep l) k) a2 := by
      simp only [rList, RM.map, RM.bind, h4, RM.pure]
    conv => whnf
    refine ⟨fits_at (ys' := [prC v]) (by kernel_rfl) (fits_one' (by kernel_rfl) (by kernel_rfl) (by omega)), ?_⟩
    conv => whnf
    refine R_at ?_ ?_ (hR (i + 1, [v], a2) ⟨by omega, by simp only [List.length_cons, List.length_nil] at *; omega, ?_⟩ (by dsimp only; omega))
    · rw [← hi1]; kernel_rfl
    · kernel_rfl
    · rw [hk2, i3]
      show RM.map _ (rList (rPrep l) (k + 1)) a = _
      simp only [RM.map] at hx ⊢
      rw [hx]
      rcases rList (rPrep l) k a2 with ⟨_ | y, b⟩ <;> simp
  · conv => whnf
    split
    rotate_left
    · rename_i h3; have h3 : ¬ (i : Int) < n := of_decide_eq_false h3
      rw [show n.toNat - i = 0 by omega] at i3
      rw [show RM.map (fun x => AV.slice (prCL x)) (rList (rPrep l) n.toNat) a1 = (some (.slice (prCL (x :: xs))), a) by simp only [RM.map, i3, rList, RM.pure, List.append_nil]] at hQ
      conv => whnf
      refine ⟨a, by kernel_rfl, Eq.mp ?_ hQ⟩
      kernel_rfl
    rename_i h3; have h3 : (i : Int) < n := of_decide_eq_true h3
    have hi1 : IntKind.i64.wrap ((i : Int) + 1) = ((i + 1 : Nat) : Int) := by rw [IntWalk.i64_in _ (by omega)]; omega
    obtain ⟨k, hk⟩ : ∃ k, n.toNat - i = k + 1 := ⟨n.toNat - i - 1, by omega⟩
    have hk2 : n.toNat - (i + 1) = k := by omega
    rw [hk] at i3
    conv => whnf
    refine ⟨l, rfl, hl, ?_⟩
    rcases h4 : rPrep l a with ⟨_ | v, a2⟩
    · rw [show g132 l a = (none, a2) by simp only [g132, RM.map, h4]]
      rw [show RM.map (fun x => AV.slice (prCL x)) (rList (rPrep l) n.toNat) a1 = (none, a2) by simp only [RM.map, i3, rList, RM.bind, h4]] at hQ
      conv => whnf
      refine ⟨a2, by kernel_rfl, Eq.mp ?_ hQ⟩
      kernel_rfl
    rw [show g132 l a = (some (.agg (prC v)), a2) by simp only [g132, RM.map, h4]]
    have hx : rList (rPrep l) (k + 1) a = RM.map (fun x => v :: x) (rList (rPrep l) k) a2 := by
      simp only [rList, RM.map, RM.bind, h4, RM.pure]
    conv => whnf
    refine ⟨fits_at (ys' := [prC v]) (by kernel_rfl) (fits_one' (by kernel_rfl) (by kernel_rfl) (Nat.le_trans (Nat.le_of_eq hcl) (by omega))), ?_⟩
    conv => whnf
    refine R_at ?_ ?_ (hR (i + 1, ((x :: xs) ++ [v]), a2) ⟨by omega, by simp only [List.length_append, List.length_cons, List.length_nil] at *; omega, ?_⟩ (by dsimp only; omega))
    · rw [← hi1]; kernel_rfl
    · show _ = rvar l a2 :: rowH1 62 8 (prCL ((x :: xs) ++ [v]))
      rw [show prCL ((x :: xs) ++ [v]) = prCL (x :: xs) ++ [prC v] by simp [prCL]]
      kernel_rfl
    · rw [hk2, i3]
      show RM.map _ (rList (rPrep l) (k + 1)) a = _
      simp only [RM.map] at hx ⊢
      rw [hx]
      rcases rList (rPrep l) k a2 with ⟨_ | y, b⟩ <;> simp

set_option maxRecDepth 100000 in
theorem s131 {T : Tab} (hT : TGood Tryz.prog T) : SGood Tryz.prog 144 (readT 145 g131) := readT_good g131_closed fun l a Q hl hQ => by
  have t0 := ext_good hT (s59 hT)
  have t1 := ext_good t0 (s132 t0)
  exact abody_sound t1.ok t1.ang t1.mono mixedT Tryz.func144 (entersOf Tryz.func144 (by kernel_rfl) rfl) (f131_ok l a hl T Q hQ 65 (by omega))

end Go.Abs

/-
(*msg.reader).report, msg.read of reports are what they come to.
-/
namespace Go.Abs
open Go Go.Proofs


def rReport (l : List Int) : RM RpV := RM.bind (rBal l) fun v1 => RM.bind (rNum l) fun v2 => RM.bind (rNum l) fun v3 => RM.bind (rText l) fun v4 => RM.bind (rMany l (rVote l)) fun v5 => RM.bind (rMany l (rPrep l)) fun v6 => RM.bind (rText l) fun v7 => RM.pure (⟨v1, v2, v3, v4, v5, v6, v7⟩ : RpV)
def g111 (l : List Int) : RM AV := RM.map (fun x => .agg (rpC x)) (rReport l)
theorem g111_closed (l : List Int) (a : Int) (v : AV) (a' : Int) (h : g111 l a = (some v, a')) : closed v = true := by
  unfold g111 RM.map at h
  split at h
  · cases h; rfl
  · cases h

set_option maxRecDepth 100000 in
set_option maxHeartbeats 4000000 in
theorem f111_ok (l : List Int) (a0 : Int) (hl : OkL l) (T : Tab) (Q : AOut → Int → Prop) (hQ : rK (g111 l a0) (fun v a' => Q (.ret v) a') (fun a' => Q (.pan eM) a')) (N : Nat) :
    abody Tryz.prog (ext (ext (ext (ext (ext T 98 (readerT g103)) 58 (readerT g59)) 100 (readerT g105)) 101 (readT 102 g106)) 144 (readT 145 g131)) 1 N Tryz.f106 [.ptr 0 0] [rvar l a0] (fun out Hs => ∃ a', Hs[0]? = some (rvar l a') ∧ Q (frzO Hs out) a') := by
  conv => whnf
  refine ⟨l, rfl, hl, ?_⟩
  rcases h1 : rBal l a0 with ⟨_ | v1, a1⟩
  · rw [show g103 l a0 = (none, a1) by simp only [g103, RM.map, h1]]
    rw [show g111 l a0 = (none, a1) by simp only [g111, rReport, RM.map, RM.bind, h1]] at hQ
    conv => whnf
    refine ⟨a1, by kernel_rfl, Eq.mp ?_ hQ⟩
    kernel_rfl
  rw [show g103 l a0 = (some (.agg (balC v1)), a1) by simp only [g103, RM.map, h1]]
  conv => whnf
  refine ⟨l, rfl, hl, ?_⟩
  rcases h2 : rNum l a1 with ⟨_ | v2, a2⟩
  · rw [show g59 l a1 = (none, a2) by simp only [g59, RM.map, h2]]
    rw [show g111 l a0 = (none, a2) by simp only [g111, rReport, RM.map, RM.bind, h1, h2]] at hQ
    conv => whnf
    refine ⟨a2, by kernel_rfl, Eq.mp ?_ hQ⟩
    kernel_rfl
  rw [show g59 l a1 = (some (.int .i64 v2), a2) by simp only [g59, RM.map, h2]]
  conv => whnf
  refine ⟨l, rfl, hl, ?_⟩
  rcases h3 : rNum l a2 with ⟨_ | v3, a3⟩
  · rw [show g59 l a2 = (none, a3) by simp only [g59, RM.map, h3]]
    rw [show g111 l a0 = (none, a3) by simp only [g111, rReport, RM.map, RM.bind, h1, h2, h3]] at hQ
    conv => whnf
    refine ⟨a3, by kernel_rfl, Eq.mp ?_ hQ⟩
    kernel_rfl
  rw [show g59 l a2 = (some (.int .i64 v3), a3) by simp only [g59, RM.map, h3]]
  conv => whnf
  refine ⟨l, rfl, hl, ?_⟩
  rcases h4 : rText l a3 with ⟨_ | v4, a4⟩
  · rw [show g105 l a3 = (none, a4) by simp only [g105, RM.map, h4]]
    rw [show g111 l a0 = (none, a4) by simp only [g111, rReport, RM.map, RM.bind, h1, h2, h3, h4]] at hQ
    conv => whnf
    refine ⟨a4, by kernel_rfl, Eq.mp ?_ hQ⟩
    kernel_rfl
  rw [show g105 l a3 = (some (.slice (bsA v4)), a4) by simp only [g105, RM.map, h4]]
  conv => whnf
  refine ⟨l, rfl, hl, ?_⟩
  rcases h5 : rMany l (rVote l) a4 with ⟨_ | v5, a5⟩
  · rw [show g106 l a4 = (none, a5) by simp only [g106, RM.map, h5]]
    rw [show g111 l a0 = (none, a5) by simp only [g111, rReport, RM.map, RM.bind, h1, h2, h3, h4, h5]] at hQ
    conv => whnf
    refine ⟨a5, by kernel_rfl, Eq.mp ?_ hQ⟩
    kernel_rfl
  rw [show g106 l a4 = (some (.slice (vtCL v5)), a5) by simp only [g106, RM.map, h5]]
  conv => whnf
  refine ⟨l, rfl, hl, ?_⟩
  rcases h6 : rMany l (rPrep l) a5 with ⟨_ | v6, a6⟩
  · rw [show g131 l a5 = (none, a6) by simp only [g131, RM.map, h6]]
    rw [show g111 l a0 = (none, a6) by simp only [g111, rReport, RM.map, RM.bind, h1, h2, h3, h4, h5, h6]] at hQ
    conv => whnf
    refine ⟨a6, by kernel_rfl, Eq.mp ?_ hQ⟩
    kernel_rfl
  rw [show g131 l a5 = (some (.slice (prCL v6)), a6) by simp only [g131, RM.map, h6]]
  conv => whnf
  refine ⟨l, rfl, hl, ?_⟩
  rcases h7 : rText l a6 with ⟨_ | v7, a7⟩
  · rw [show g105 l a6 = (none, a7) by simp only [g105, RM.map, h7]]
    rw [show g111 l a0 = (none, a7) by simp only [g111, rReport, RM.map, RM.bind, h1, h2, h3, h4, h5, h6, h7]] at hQ
    conv => whnf
    refine ⟨a7, by kernel_rfl, Eq.mp ?_ hQ⟩
    kernel_rfl
  rw [show g105 l a6 = (some (.slice (bsA v7)), a7) by simp only [g105, RM.map, h7]]
  conv => whnf
  rw [show g111 l a0 = (some ((fun x => .agg (rpC x)) (⟨v1, v2, v3, v4, v5, v6, v7⟩ : RpV)), a7) by simp only [g111, rReport, RM.map, RM.bind, RM.pure, h1, h2, h3, h4, h5, h6, h7]] at hQ
  refine ⟨a7, by kernel_rfl, Eq.mp ?_ hQ⟩
  kernel_rfl

set_option maxRecDepth 100000 in
theorem s111 {T : Tab} (hT : TGood Tryz.prog T) : SGood Tryz.prog 106 (readerT g111) := readerT_good g111_closed fun l a Q hl hQ => by
  have t0 := ext_good hT (s103 hT)
  have t1 := ext_good t0 (s59 t0)
  have t2 := ext_good t1 (s105 t1)
  have t3 := ext_good t2 (s106 t2)
  have t4 := ext_good t3 (s131 t3)
  exact abody_sound t4.ok t4.ang t4.mono mixedT Tryz.func106 (entersOf Tryz.func106 (by kernel_rfl) rfl) (f111_ok l a hl T Q hQ 0)


def g110 (l : List Int) : RM AV := RM.map (fun x => .slice (rpCL x)) (rMany l (rReport l))
theorem g110_closed (l : List Int) (a : Int) (v : AV) (a' : Int) (h : g110 l a = (some v, a')) : closed v = true := by
  unfold g110 RM.map at h
  split at h
  · cases h; rfl
  · cases h

set_option maxRecDepth 100000 in
set_option maxHeartbeats 8000000 in
theorem f110_ok (l : List Int) (a0 : Int) (hl : OkL l) (T : Tab) (Q : AOut → Int → Prop) (hQ : rK (g110 l a0) (fun v a' => Q (.ret v) a') (fun a' => Q (.pan eM) a')) (N : Nat) (hN : 64 < N) :
    abody Tryz.prog (ext (ext T 58 (readerT g59)) 106 (readerT g111)) 1 N Tryz.f105 [.ptr 0 0, .func (.func 106) [.ptr 0 0] []] [rvar l a0] (fun out Hs => ∃ a', Hs[0]? = some (rvar l a') ∧ Q (frzO Hs out) a') := by
  conv => whnf
  refine ⟨l, rfl, hl, ?_⟩
  rcases h1 : rNum l a0 with ⟨_ | n, a1⟩
  · rw [show g59 l a0 = (none, a1) by simp only [g59, RM.map, h1]]
    rw [show g110 l a0 = (none, a1) by simp only [g110, rMany, RM.map, RM.bind, h1]] at hQ
    conv => whnf
    refine ⟨a1, by kernel_rfl, Eq.mp ?_ hQ⟩
    kernel_rfl
  rw [show g59 l a0 = (some (.int .i64 n), a1) by simp only [g59, RM.map, h1]]
  have hn0 := rNum_nonneg h1
  conv => whnf
  split
  · rename_i h2; have h2 : n > 64 := of_decide_eq_true h2
    rw [show g110 l a0 = (none, a1) by simp only [g110, rMany, RM.map, RM.bind, h1, if_pos h2]] at hQ
    refine ⟨a1, by kernel_rfl, Eq.mp ?_ hQ⟩
    kernel_rfl
  rename_i h2; have h2 : ¬ n > 64 := of_decide_eq_false h2
  have hG : g110 l a0 = RM.map (fun x => .slice (rpCL x)) (rList (rReport l) n.toNat) a1 := by
    simp only [g110, rMany, RM.map, RM.bind, h1, if_neg h2]
  rw [hG] at hQ
  clear hG h1
  conv => whnf
  refine aloop_at ?_ ?_ (aloop_inv (σ := Nat × List RpV × Int) (fun s => ((sp 0 22 [(1, .func (.func 106) [.ptr 0 0] []), (6, rowV1 (rpCL s.2.1)), (12, .int .i64 n), (13, .int .i64 (s.1 : Nat))]), rvar l s.2.2 :: rowH1 28 8 (rpCL s.2.1)))
    (fun s => s.1 ≤ n.toNat ∧ s.2.1.length = s.1 ∧ rList (rReport l) n.toNat a1 = RM.map (fun x => s.2.1 ++ x) (rList (rReport l) (n.toNat - s.1)) s.2.2) (fun s => n.toNat - s.1) ?_ N (0, [], a1) ⟨Nat.zero_le _, rfl, by simp [RM.map]; rcases rList (rReport l) n.toNat a1 with ⟨_ | _, _⟩ <;> rfl⟩ (by dsimp only; omega))
  · kernel_rfl
  · kernel_rfl
  clear hN
  rintro ⟨i, acc, a⟩ ⟨i1, i2, i3⟩ R hR
  dsimp only at i1 i2 i3
  have hcl : (rpCL acc).length = i := by simp [rpCL, i2]
  rcases acc with _ | ⟨x, xs⟩
  · conv => whnf
    split
    rotate_left
    · rename_i h3; have h3 : ¬ (i : Int) < n := of_decide_eq_false h3
      rw [show n.toNat - i = 0 by omega] at i3
      rw [show RM.map (fun x => AV.slice (rpCL x)) (rList (rReport l) n.toNat) a1 = (some (.slice (rpCL [])), a) by simp only [RM.map, i3, rList, RM.pure, List.append_nil]] at hQ
      conv => whnf
      refine ⟨a, by kernel_rfl, Eq.mp ?_ hQ⟩
      kernel_rfl
    rename_i h3; have h3 : (i : Int) < n := of_decide_eq_true h3
    have hi1 : IntKind.i64.wrap ((i : Int) + 1) = ((i + 1 : Nat) : Int) := by rw [IntWalk.i64_in _ (by omega)]; omega
    obtain ⟨k, hk⟩ : ∃ k, n.toNat - i = k + 1 := ⟨n.toNat - i - 1, by omega⟩
    have hk2 : n.toNat - (i + 1) = k := by omega
    rw [hk] at i3
    conv => whnf
    refine ⟨l, rfl, hl, ?_⟩
    rcases h4 : rReport l a with ⟨_ | v, a2⟩
    · rw [show g111 l a = (none, a2) by simp only [g111, RM.map, h4]]
      rw [show RM.map (fun x => AV.slice (rpCL x)) (rList (rReport l) n.toNat) a1 = (none, a2) by simp only [RM.map, i3, rList, RM.bind, h4]] at hQ
      conv => whnf
      refine ⟨a2, by kernel_rfl, Eq.mp ?_ hQ⟩
      kernel_rfl
    rw [show g111 l a = (some (.agg (rpC v)), a2) by simp only [g111, RM.map, h4]]
    have hx : rList (rReport l) (k + 1) a = RM.map (fun x => v :: x) (rList (rReport l) k) a2 := by
      simp only [rList, RM.map, RM.bind, h4, RM.pure]
    conv => whnf
    refine ⟨fits_at (ys' := [rpC v]) (by kernel_rfl) (fits_one' (by kernel_rfl) (by kernel_rfl) (by omega)), ?_⟩
    conv => whnf
    refine R_at ?_ ?_ (hR (i + 1, [v], a2) ⟨by omega, by simp only [List.length_cons, List.length_nil] at *; omega, ?_⟩ (by dsimp only; omega))
    · rw [← hi1]; kernel_rfl
    · kernel_rfl
    · rw [hk2, i3]
      show RM.map _ (rList (rReport l) (k + 1)) a = _
      simp only [RM.map] at hx ⊢
      rw [hx]
      rcases rList (rReport l) k a2 with ⟨_ | y, b⟩ <;> simp
  · conv => whnf
    split
    rotate_left
    · rename_i h3; have h3 : ¬ (i : Int) < n := of_decide_eq_false h3
      rw [show n.toNat - i = 0 by omega] at i3
      rw [show RM.map (fun x => AV.slice (rpCL x)) (rList (rReport l) n.toNat) a1 = (some (.slice (rpCL (x :: xs))), a) by simp only [RM.map, i3, rList, RM.pure, List.append_nil]] at hQ
      conv => whnf
      refine ⟨a, by kernel_rfl, Eq.mp ?_ hQ⟩
      kernel_rfl
    rename_i h3; have h3 : (i : Int) < n := of_decide_eq_true h3
    have hi1 : IntKind.i64.wrap ((i : Int) + 1) = ((i + 1 : Nat) : Int) := by rw [IntWalk.i64_in _ (by omega)]; omega
    obtain ⟨k, hk⟩ : ∃ k, n.toNat - i = k + 1 := ⟨n.toNat - i - 1, by omega⟩
    have hk2 : n.toNat - (i + 1) = k := by omega
    rw [hk] at i3
    conv => whnf
    refine ⟨l, rfl, hl, ?_⟩
    rcases h4 : rReport l a with ⟨_ | v, a2⟩
    · rw [show g111 l a = (none, a2) by simp only [g111, RM.map, h4]]
      rw [show RM.map (fun x => AV.slice (rpCL x)) (rList (rReport l) n.toNat) a1 = (none, a2) by simp only [RM.map, i3, rList, RM.bind, h4]] at hQ
      conv => whnf
      refine ⟨a2, by kernel_rfl, Eq.mp ?_ hQ⟩
      kernel_rfl
    rw [show g111 l a = (some (.agg (rpC v)), a2) by simp only [g111, RM.map, h4]]
    have hx : rList (rReport l) (k + 1) a = RM.map (fun x => v :: x) (rList (rReport l) k) a2 := by
      simp only [rList, RM.map, RM.bind, h4, RM.pure]
    conv => whnf
    refine ⟨fits_at (ys' := [rpC v]) (by kernel_rfl) (fits_one' (by kernel_rfl) (by kernel_rfl) (Nat.le_trans (Nat.le_of_eq hcl) (by omega))), ?_⟩
    conv => whnf
    refine R_at ?_ ?_ (hR (i + 1, ((x :: xs) ++ [v]), a2) ⟨by omega, by simp only [List.length_append, List.length_cons, List.length_nil] at *; omega, ?_⟩ (by dsimp only; omega))
    · rw [← hi1]; kernel_rfl
    · show _ = rvar l a2 :: rowH1 28 8 (rpCL ((x :: xs) ++ [v]))
      rw [show rpCL ((x :: xs) ++ [v]) = rpCL (x :: xs) ++ [rpC v] by simp [rpCL]]
      kernel_rfl
    · rw [hk2, i3]
      show RM.map _ (rList (rReport l) (k + 1)) a = _
      simp only [RM.map] at hx ⊢
      rw [hx]
      rcases rList (rReport l) k a2 with ⟨_ | y, b⟩ <;> simp

set_option maxRecDepth 100000 in
theorem s110 {T : Tab} (hT : TGood Tryz.prog T) : SGood Tryz.prog 105 (readT 106 g110) := readT_good g110_closed fun l a Q hl hQ => by
  have t0 := ext_good hT (s59 hT)
  have t1 := ext_good t0 (s111 t0)
  exact abody_sound t1.ok t1.ang t1.mono mixedT Tryz.func105 (entersOf Tryz.func105 (by kernel_rfl) rfl) (f110_ok l a hl T Q hQ 65 (by omega))

end Go.Abs

/-
(*msg.reader).field is what it comes to.
-/
namespace Go.Abs
open Go Go.Proofs
variable {P : Program}

def unz : AV → AV
  | .zslice => .slice []
  | v => v
def mK {α : Type} (r : Option α × Int) (ok : α → Int → Prop) (bad : Int → Prop) : Prop := match r with
  | (some v, a) => ok v a
  | (none, a) => bad a
theorem mK_mono {α : Type} {r : Option α × Int} {ok ok' : α → Int → Prop} {bad bad' : Int → Prop} (h1 : ∀ v a, ok v a → ok' v a) (h2 : ∀ a, bad a → bad' a) (h : mK r ok bad) : mK r ok' bad' := by
  obtain ⟨v, a⟩ := r
  cases v with
  | some v => exact h1 _ _ h
  | none => exact h2 _ h
def rField (l : List Int) (m : MsV) : Nat → RM MsV
  | 0 => RM.map (fun v => { m with bal := v }) (rBal l)
  | 1 => RM.map (fun v => { m with slot := v }) (rNum l)
  | 2 => RM.map (fun v => { m with from_ := v }) (rNum l)
  | 3 => RM.map (fun v => { m with to := v }) (rNum l)
  | 4 => RM.map (fun v => { m with index := v }) (rNum l)
  | 5 => RM.map (fun v => { m with count := v }) (rNum l)
  | 6 => RM.map (fun v => { m with req := v }) (rReq l)
  | 7 => RM.map (fun v => { m with other := v }) (rReq l)
  | 8 => RM.map (fun v => { m with data := v }) (rText l)
  | 9 => RM.map (fun v => { m with sig := v }) (rText l)
  | 10 => RM.map (fun v => { m with cert := v }) (rMany l (rVote l))
  | 11 => RM.map (fun v => { m with votes := v }) (rMany l (rVote l))
  | 12 => RM.map (fun v => { m with order := v }) (rMany l (rNum l))
  | 13 => RM.map (fun v => { m with picks := v }) (rMany l (rReq l))
  | 14 => RM.map (fun v => { m with reports := v }) (rMany l (rReport l))
  | _ => RM.pure m
theorem msC_closed (m : MsV) : closeds (msC m) = true := rfl
theorem msC_unz (m : MsV) : (msC m).map unz = msC m := rfl

def fieldRT : Spec := fun args H Q => match args with
  | [.ptr p o, .ptr q o', .int .i32 f] => match o, o', H[p]?, H[q]? with
    | 0, 0, some (.var [.slice es, .int .i64 a]), some (.var cs) => ∃ l m i, es = bsA l ∧ cs.map unz = msC m ∧ OkL l ∧ i < 15 ∧ f = letter i ∧
      mK (rField l m i a) (fun m' a' => Q (.ret (.tuple [])) ((H.set p (rvar l a')).set q (.var (msC m')))) (fun a' => Q (.pan eM) ((H.set p (rvar l a')).set q (.var (msC m))))
    | _, _, _, _ => False
  | _ => False
theorem fieldRT_inv {args : List AV} {H : Heap} {Q : AOut → Heap → Prop} (h : fieldRT args H Q) : ∃ p q l a cs m i, args = [.ptr p 0, .ptr q 0, .int .i32 (letter i)] ∧ H[p]? = some (rvar l a) ∧ H[q]? = some (.var cs) ∧ cs.map unz = msC m ∧ OkL l ∧ i < 15 ∧
    mK (rField l m i a) (fun m' a' => Q (.ret (.tuple [])) ((H.set p (rvar l a')).set q (.var (msC m')))) (fun a' => Q (.pan eM) ((H.set p (rvar l a')).set q (.var (msC m)))) := by
  unfold fieldRT at h
  split at h
  case h_2 => exact h.elim
  split at h
  case h_2 => exact h.elim
  rename_i hp hq
  obtain ⟨l, m, i, rfl, hcs, hl, hi, rfl, h⟩ := h
  exact ⟨_, _, l, _, _, m, i, rfl, hp, hq, hcs, hl, hi, h⟩
theorem fieldRT_mk {p q : Nat} {l : List Int} {a : Int} {cs : List AV} {m : MsV} {i : Nat} {H : Heap} {Q : AOut → Heap → Prop} (hp : H[p]? = some (rvar l a)) (hq : H[q]? = some (.var cs)) (hcs : cs.map unz = msC m) (hl : OkL l) (hi : i < 15)
    (h : mK (rField l m i a) (fun m' a' => Q (.ret (.tuple [])) ((H.set p (rvar l a')).set q (.var (msC m')))) (fun a' => Q (.pan eM) ((H.set p (rvar l a')).set q (.var (msC m))))) : fieldRT [.ptr p 0, .ptr q 0, .int .i32 (letter i)] H Q := by
  unfold fieldRT
  simp only [hp, hq, rvar]
  exact ⟨l, m, i, rfl, hcs, hl, hi, rfl, h⟩

theorem fieldRT_good {f : FuncId}
    (h : ∀ l a m i (Q : AOut → Heap → Prop), OkL l → i < 15 → mK (rField l m i a) (fun m' a' => Q (.ret (.tuple [])) [rvar l a', .var (msC m')]) (fun a' => Q (.pan eM) [rvar l a', .var (msC m)]) →
      FOK P f [.ptr 0 0, .ptr 1 0, .int .i32 (letter i)] [rvar l a, .var (msC m)] Q) : SGood P f fieldRT where
  ok := fun args H Q hg => by
    obtain ⟨p, q, l, a, cs, m, i, rfl, hp, hq, hcs, hl, hi, hQ⟩ := fieldRT_inv hg
    have hne : p ≠ q := fun e => by
      subst e
      rw [hp] at hq
      cases hq
      have := congrArg List.length hcs
      simp [msC] at this
    have hpl : p < H.length := (List.getElem?_eq_some_iff.1 hp).1
    have hql : q < H.length := (List.getElem?_eq_some_iff.1 hq).1
    -- nil slices read asl slices without elements
    have hre : FOK P f [.ptr p 0, .ptr q 0, .int .i32 (letter i)] (H.set q (.var (msC m))) Q → FOK P f [.ptr p 0, .ptr q 0, .int .i32 (letter i)] H Q := fun h => by
      refine ⟨h.1, fun Mx G w cargs hs ht => ?_⟩
      obtain ⟨k1, k2⟩ := hs.revar (cs' := msC m) hq (by rw [← hcs, List.length_map]) (fun j v x y e1 e2 _ hr => by
        rw [← hcs, List.getElem?_map, e1] at e2
        cases e2
        cases x <;> first | exact hr | (obtain ⟨A, rfl⟩ := hr.zslice_inv; exact .slice0 ..))
      refine (h.2 Mx G w cargs k1 (by have := k2.tv ht; simpa using this)).mono fun e w' ⟨out, H', G', m1, m2, m3, m4⟩ => ⟨out, H', G', k2.trans (by simp) m1, m2, m3, m4⟩
    refine hre ?_
    have i0 : ([p, q] : List Nat).idxOf? p = some 0 := by simp [List.idxOf?, List.findIdx?_cons]
    have i1 : ([p, q] : List Nat).idxOf? q = some 1 := by simp [List.idxOf?, List.findIdx?_cons, hne]
    refine sub_call (ids := [p, q]) (by simp [hne]) (fun x hx => by simp at hx; rcases hx with rfl | rfl <;> simpa) ?_
    have hp' : (H.set q (.var (msC m)))[p]? = some (rvar l a) := by rw [List.getElem?_set_ne (Ne.symm hne)]; exact hp
    have hq' : (H.set q (.var (msC m)))[q]? = some (.var (msC m)) := List.getElem?_set_self hql
    have e1 : renL (([p, q] : List Nat).idxOf? ·) [.ptr p 0, .ptr q 0, .int .i32 (letter i)] = [.ptr 0 0, .ptr 1 0, .int .i32 (letter i)] := by
      simp only [renL, ren, i0, i1]
    have e2 : subH (H.set q (.var (msC m))) [p, q] = [rvar l a, .var (msC m)] := by
      simp only [subH, List.map_cons, List.map_nil, List.getD_eq_getElem?_getD, hp', hq', Option.getD_some]
      simp only [rvar, renH, renL_closed _ (msC m) (msC_closed m), renL, ren]
    rw [e1, e2]
    have hm : ∀ a' m', mergeH (H.set q (.var (msC m))) [p, q] [rvar l a', .var (msC m')] = (H.set p (rvar l a')).set q (.var (msC m')) := fun a' m' => by
      unfold mergeH
      simp only [List.length_cons, List.length_nil, Nat.zero_add, Nat.reduceAdd, List.drop_succ_cons, List.drop_nil, List.map_nil, List.append_nil]
      refine List.ext_getElem? fun j => ?_
      rw [List.getElem?_map, List.getElem?_zipIdx]
      by_cases hjq : j = q
      · subst hjq
        rw [hq', List.getElem?_set_self (by simpa using hql)]
        simp [i1, renH, renL_closed _ (msC m') (msC_closed m')]
      · by_cases hjp : j = p
        · subst hjp
          rw [hp', List.getElem?_set_ne (fun e => hjq e.symm), List.getElem?_set_self hpl]
          simp only [Option.map_some, Nat.zero_add, i0, List.getD_cons_zero, rvar, renH, renL, ren]
        · rw [List.getElem?_set_ne (fun e => hjq e.symm), List.getElem?_set_ne (fun e => hjq e.symm), List.getElem?_set_ne (fun e => hjp e.symm)]
          cases hj : H[j]? with
          | none => rfl
          | some o =>
            have : ([p, q] : List Nat).idxOf? j = none := by rw [List.idxOf?_eq_none_iff]; simp [hjp, hjq]
            simp [this]
    refine h l a m i _ hl hi (mK_mono (fun m' a' hh => ?_) (fun a' hh => ?_) hQ)
    · rw [hm]; exact hh
    · rw [hm]; exact hh
  ang := fun args H K hg => by
    obtain ⟨p, q, l, a, cs, m, i, rfl, hp, hq, hcs, hl, hi, hQ⟩ := fieldRT_inv hg
    rcases hr : rField l m i a with ⟨_ | m', a'⟩
    · rw [hr] at hQ
      exact ⟨_, _, fieldRT_mk hp hq hcs hl hi (by rw [hr]; exact ⟨rfl, rfl⟩), hQ⟩
    · rw [hr] at hQ
      exact ⟨_, _, fieldRT_mk hp hq hcs hl hi (by rw [hr]; exact ⟨rfl, rfl⟩), hQ⟩
  mono := fun args H K K' hk hg => by
    obtain ⟨p, q, l, a, cs, m, i, rfl, hp, hq, hcs, hl, hi, hQ⟩ := fieldRT_inv hg
    exact fieldRT_mk hp hq hcs hl hi (mK_mono (fun _ _ h => hk _ _ h) (fun _ h => hk _ _ h) hQ)

def T60 (T : Tab) : Tab := (ext (ext (ext (ext (ext (ext (ext (ext T 58 (readerT g59)) 98 (readerT g103)) 99 (readerT g104)) 100 (readerT g105)) 101 (readT 102 g106)) 103 (readT 58 g108)) 104 (readT 99 g109)) 105 (readT 106 g110))
theorem T60_good {T : Tab} (hT : TGood Tryz.prog T) : TGood Tryz.prog (T60 T) := by
  have h0 := ext_good hT (s59 hT)
  have h1 := ext_good h0 (s103 h0)
  have h2 := ext_good h1 (s104 h1)
  have h3 := ext_good h2 (s105 h2)
  have h4 := ext_good h3 (s106 h3)
  have h5 := ext_good h4 (s108 h4)
  have h6 := ext_good h5 (s109 h5)
  have h7 := ext_good h6 (s110 h6)
  exact h7

set_option maxRecDepth 100000 in
set_option maxHeartbeats 4000000 in
theorem f60_ok0 (l : List Int) (a : Int) (m : MsV) (hl : OkL l) (T : Tab) (Q : AOut → Heap → Prop)
    (hQ : mK (rField l m 0 a) (fun m' a' => Q (.ret (.tuple [])) [rvar l a', .var (msC m')]) (fun a' => Q (.pan eM) [rvar l a', .var (msC m)])) (N : Nat) :
    abody Tryz.prog (T60 T) 2 N Tryz.f59 [.ptr 0 0, .ptr 1 0, .int .i32 (letter 0)] [rvar l a, .var (msC m)] Q := by
  conv => whnf
  refine ⟨l, rfl, hl, ?_⟩
  rcases h1 : rBal l a with ⟨_ | v, b⟩
  · rw [show g103 l a = (none, b) by simp only [g103, RM.map, h1]]
    rw [show rField l m 0 a = (none, b) by simp only [rField, RM.map, h1]] at hQ
    conv => whnf
    refine Eq.mp ?_ hQ
    kernel_rfl
  rw [show g103 l a = (some (.agg (balC v)), b) by simp only [g103, RM.map, h1]]
  rw [show rField l m 0 a = (some { m with bal := v }, b) by simp only [rField, RM.map, h1]] at hQ
  conv => whnf
  refine Eq.mp ?_ hQ
  kernel_rfl

set_option maxRecDepth 100000 in
set_option maxHeartbeats 4000000 in
theorem f60_ok1 (l : List Int) (a : Int) (m : MsV) (hl : OkL l) (T : Tab) (Q : AOut → Heap → Prop)
    (hQ : mK (rField l m 1 a) (fun m' a' => Q (.ret (.tuple [])) [rvar l a', .var (msC m')]) (fun a' => Q (.pan eM) [rvar l a', .var (msC m)])) (N : Nat) :
    abody Tryz.prog (T60 T) 2 N Tryz.f59 [.ptr 0 0, .ptr 1 0, .int .i32 (letter 1)] [rvar l a, .var (msC m)] Q := by
  conv => whnf
  refine ⟨l, rfl, hl, ?_⟩
  rcases h1 : rNum l a with ⟨_ | v, b⟩
  · rw [show g59 l a = (none, b) by simp only [g59, RM.map, h1]]
    rw [show rField l m 1 a = (none, b) by simp only [rField, RM.map, h1]] at hQ
    conv => whnf
    refine Eq.mp ?_ hQ
    kernel_rfl
  rw [show g59 l a = (some (.int .i64 v), b) by simp only [g59, RM.map, h1]]
  rw [show rField l m 1 a = (some { m with slot := v }, b) by simp only [rField, RM.map, h1]] at hQ
  conv => whnf
  refine Eq.mp ?_ hQ
  kernel_rfl

set_option maxRecDepth 100000 in
set_option maxHeartbeats 4000000 in
theorem f60_ok2 (l : List Int) (a : Int) (m : MsV) (hl : OkL l) (T : Tab) (Q : AOut → Heap → Prop)
    (hQ : mK (rField l m 2 a) (fun m' a' => Q (.ret (.tuple [])) [rvar l a', .var (msC m')]) (fun a' => Q (.pan eM) [rvar l a', .var (msC m)])) (N : Nat) :
    abody Tryz.prog (T60 T) 2 N Tryz.f59 [.ptr 0 0, .ptr 1 0, .int .i32 (letter 2)] [rvar l a, .var (msC m)] Q := by
  conv => whnf
  refine ⟨l, rfl, hl, ?_⟩
  rcases h1 : rNum l a with ⟨_ | v, b⟩
  · rw [show g59 l a = (none, b) by simp only [g59, RM.map, h1]]
    rw [show rField l m 2 a = (none, b) by simp only [rField, RM.map, h1]] at hQ
    conv => whnf
    refine Eq.mp ?_ hQ
    kernel_rfl
  rw [show g59 l a = (some (.int .i64 v), b) by simp only [g59, RM.map, h1]]
  rw [show rField l m 2 a = (some { m with from_ := v }, b) by simp only [rField, RM.map, h1]] at hQ
  conv => whnf
  refine Eq.mp ?_ hQ
  kernel_rfl

set_option maxRecDepth 100000 in
set_option maxHeartbeats 4000000 in
theorem f60_ok3 (l : List Int) (a : Int) (m : MsV) (hl : OkL l) (T : Tab) (Q : AOut → Heap → Prop)
    (hQ : mK (rField l m 3 a) (fun m' a' => Q (.ret (.tuple [])) [rvar l a', .var (msC m')]) (fun a' => Q (.pan eM) [rvar l a', .var (msC m)])) (N : Nat) :
    abody Tryz.prog (T60 T) 2 N Tryz.f59 [.ptr 0 0, .ptr 1 0, .int .i32 (letter 3)] [rvar l a, .var (msC m)] Q := by
  conv => whnf
  refine ⟨l, rfl, hl, ?_⟩
  rcases h1 : rNum l a with ⟨_ | v, b⟩
  · rw [show g59 l a = (none, b) by simp only [g59, RM.map, h1]]
    rw [show rField l m 3 a = (none, b) by simp only [rField, RM.map, h1]] at hQ
    conv => whnf
    refine Eq.mp ?_ hQ
    kernel_rfl
  rw [show g59 l a = (some (.int .i64 v), b) by simp only [g59, RM.map, h1]]
  rw [show rField l m 3 a = (some { m with to := v }, b) by simp only [rField, RM.map, h1]] at hQ
  conv => whnf
  refine Eq.mp ?_ hQ
  kernel_rfl

set_option maxRecDepth 100000 in
set_option maxHeartbeats 4000000 in
theorem f60_ok4 (l : List Int) (a : Int) (m : MsV) (hl : OkL l) (T : Tab) (Q : AOut → Heap → Prop)
    (hQ : mK (rField l m 4 a) (fun m' a' => Q (.ret (.tuple [])) [rvar l a', .var (msC m')]) (fun a' => Q (.pan eM) [rvar l a', .var (msC m)])) (N : Nat) :
    abody Tryz.prog (T60 T) 2 N Tryz.f59 [.ptr 0 0, .ptr 1 0, .int .i32 (letter 4)] [rvar l a, .var (msC m)] Q := by
  conv => whnf
  refine ⟨l, rfl, hl, ?_⟩
  rcases h1 : rNum l a with ⟨_ | v, b⟩
  · rw [show g59 l a = (none, b) by simp only [g59, RM.map, h1]]
    rw [show rField l m 4 a = (none, b) by simp only [rField, RM.map, h1]] at hQ
    conv => whnf
    refine Eq.mp ?_ hQ
    kernel_rfl
  rw [show g59 l a = (some (.int .i64 v), b) by simp only [g59, RM.map, h1]]
  rw [show rField l m 4 a = (some { m with index := v }, b) by simp only [rField, RM.map, h1]] at hQ
  conv => whnf
  refine Eq.mp ?_ hQ
  kernel_rfl

set_option maxRecDepth 100000 in
set_option maxHeartbeats 4000000 in
theorem f60_ok5 (l : List Int) (a : Int) (m : MsV) (hl : OkL l) (T : Tab) (Q : AOut → Heap → Prop)
    (hQ : mK (rField l m 5 a) (fun m' a' => Q (.ret (.tuple [])) [rvar l a', .var (msC m')]) (fun a' => Q (.pan eM) [rvar l a', .var (msC m)])) (N : Nat) :
    abody Tryz.prog (T60 T) 2 N Tryz.f59 [.ptr 0 0, .ptr 1 0, .int .i32 (letter 5)] [rvar l a, .var (msC m)] Q := by
  conv => whnf
  refine ⟨l, rfl, hl, ?_⟩
  rcases h1 : rNum l a with ⟨_ | v, b⟩
  · rw [show g59 l a = (none, b) by simp only [g59, RM.map, h1]]
    rw [show rField l m 5 a = (none, b) by simp only [rField, RM.map, h1]] at hQ
    conv => whnf
    refine Eq.mp ?_ hQ
    kernel_rfl
  rw [show g59 l a = (some (.int .i64 v), b) by simp only [g59, RM.map, h1]]
  rw [show rField l m 5 a = (some { m with count := v }, b) by simp only [rField, RM.map, h1]] at hQ
  conv => whnf
  refine Eq.mp ?_ hQ
  kernel_rfl

set_option maxRecDepth 100000 in
set_option maxHeartbeats 4000000 in
theorem f60_ok6 (l : List Int) (a : Int) (m : MsV) (hl : OkL l) (T : Tab) (Q : AOut → Heap → Prop)
    (hQ : mK (rField l m 6 a) (fun m' a' => Q (.ret (.tuple [])) [rvar l a', .var (msC m')]) (fun a' => Q (.pan eM) [rvar l a', .var (msC m)])) (N : Nat) :
    abody Tryz.prog (T60 T) 2 N Tryz.f59 [.ptr 0 0, .ptr 1 0, .int .i32 (letter 6)] [rvar l a, .var (msC m)] Q := by
  conv => whnf
  refine ⟨l, rfl, hl, ?_⟩
  rcases h1 : rReq l a with ⟨_ | v, b⟩
  · rw [show g104 l a = (none, b) by simp only [g104, RM.map, h1]]
    rw [show rField l m 6 a = (none, b) by simp only [rField, RM.map, h1]] at hQ
    conv => whnf
    refine Eq.mp ?_ hQ
    kernel_rfl
  rw [show g104 l a = (some (.agg (rqC v)), b) by simp only [g104, RM.map, h1]]
  rw [show rField l m 6 a = (some { m with req := v }, b) by simp only [rField, RM.map, h1]] at hQ
  conv => whnf
  refine Eq.mp ?_ hQ
  kernel_rfl

set_option maxRecDepth 100000 in
set_option maxHeartbeats 4000000 in
theorem f60_ok7 (l : List Int) (a : Int) (m : MsV) (hl : OkL l) (T : Tab) (Q : AOut → Heap → Prop)
    (hQ : mK (rField l m 7 a) (fun m' a' => Q (.ret (.tuple [])) [rvar l a', .var (msC m')]) (fun a' => Q (.pan eM) [rvar l a', .var (msC m)])) (N : Nat) :
    abody Tryz.prog (T60 T) 2 N Tryz.f59 [.ptr 0 0, .ptr 1 0, .int .i32 (letter 7)] [rvar l a, .var (msC m)] Q := by
  conv => whnf
  refine ⟨l, rfl, hl, ?_⟩
  rcases h1 : rReq l a with ⟨_ | v, b⟩
  · rw [show g104 l a = (none, b) by simp only [g104, RM.map, h1]]
    rw [show rField l m 7 a = (none, b) by simp only [rField, RM.map, h1]] at hQ
    conv => whnf
    refine Eq.mp ?_ hQ
    kernel_rfl
  rw [show g104 l a = (some (.agg (rqC v)), b) by simp only [g104, RM.map, h1]]
  rw [show rField l m 7 a = (some { m with other := v }, b) by simp only [rField, RM.map, h1]] at hQ
  conv => whnf
  refine Eq.mp ?_ hQ
  kernel_rfl

set_option maxRecDepth 100000 in
set_option maxHeartbeats 4000000 in
theorem f60_ok8 (l : List Int) (a : Int) (m : MsV) (hl : OkL l) (T : Tab) (Q : AOut → Heap → Prop)
    (hQ : mK (rField l m 8 a) (fun m' a' => Q (.ret (.tuple [])) [rvar l a', .var (msC m')]) (fun a' => Q (.pan eM) [rvar l a', .var (msC m)])) (N : Nat) :
    abody Tryz.prog (T60 T) 2 N Tryz.f59 [.ptr 0 0, .ptr 1 0, .int .i32 (letter 8)] [rvar l a, .var (msC m)] Q := by
  conv => whnf
  refine ⟨l, rfl, hl, ?_⟩
  rcases h1 : rText l a with ⟨_ | v, b⟩
  · rw [show g105 l a = (none, b) by simp only [g105, RM.map, h1]]
    rw [show rField l m 8 a = (none, b) by simp only [rField, RM.map, h1]] at hQ
    conv => whnf
    refine Eq.mp ?_ hQ
    kernel_rfl
  rw [show g105 l a = (some (.slice (bsA v)), b) by simp only [g105, RM.map, h1]]
  rw [show rField l m 8 a = (some { m with data := v }, b) by simp only [rField, RM.map, h1]] at hQ
  conv => whnf
  refine Eq.mp ?_ hQ
  kernel_rfl

set_option maxRecDepth 100000 in
set_option maxHeartbeats 4000000 in
theorem f60_ok9 (l : List Int) (a : Int) (m : MsV) (hl : OkL l) (T : Tab) (Q : AOut → Heap → Prop)
    (hQ : mK (rField l m 9 a) (fun m' a' => Q (.ret (.tuple [])) [rvar l a', .var (msC m')]) (fun a' => Q (.pan eM) [rvar l a', .var (msC m)])) (N : Nat) :
    abody Tryz.prog (T60 T) 2 N Tryz.f59 [.ptr 0 0, .ptr 1 0, .int .i32 (letter 9)] [rvar l a, .var (msC m)] Q := by
  conv => whnf
  refine ⟨l, rfl, hl, ?_⟩
  rcases h1 : rText l a with ⟨_ | v, b⟩
  · rw [show g105 l a = (none, b) by simp only [g105, RM.map, h1]]
    rw [show rField l m 9 a = (none, b) by simp only [rField, RM.map, h1]] at hQ
    conv => whnf
    refine Eq.mp ?_ hQ
    kernel_rfl
  rw [show g105 l a = (some (.slice (bsA v)), b) by simp only [g105, RM.map, h1]]
  rw [show rField l m 9 a = (some { m with sig := v }, b) by simp only [rField, RM.map, h1]] at hQ
  conv => whnf
  refine Eq.mp ?_ hQ
  kernel_rfl

set_option maxRecDepth 100000 in
set_option maxHeartbeats 4000000 in
theorem f60_ok10 (l : List Int) (a : Int) (m : MsV) (hl : OkL l) (T : Tab) (Q : AOut → Heap → Prop)
    (hQ : mK (rField l m 10 a) (fun m' a' => Q (.ret (.tuple [])) [rvar l a', .var (msC m')]) (fun a' => Q (.pan eM) [rvar l a', .var (msC m)])) (N : Nat) :
    abody Tryz.prog (T60 T) 2 N Tryz.f59 [.ptr 0 0, .ptr 1 0, .int .i32 (letter 10)] [rvar l a, .var (msC m)] Q := by
  conv => whnf
  refine ⟨l, rfl, hl, ?_⟩
  rcases h1 : rMany l (rVote l) a with ⟨_ | v, b⟩
  · rw [show g106 l a = (none, b) by simp only [g106, RM.map, h1]]
    rw [show rField l m 10 a = (none, b) by simp only [rField, RM.map, h1]] at hQ
    conv => whnf
    refine Eq.mp ?_ hQ
    kernel_rfl
  rw [show g106 l a = (some (.slice (vtCL v)), b) by simp only [g106, RM.map, h1]]
  rw [show rField l m 10 a = (some { m with cert := v }, b) by simp only [rField, RM.map, h1]] at hQ
  conv => whnf
  refine Eq.mp ?_ hQ
  kernel_rfl

set_option maxRecDepth 100000 in
set_option maxHeartbeats 4000000 in
theorem f60_ok11 (l : List Int) (a : Int) (m : MsV) (hl : OkL l) (T : Tab) (Q : AOut → Heap → Prop)
    (hQ : mK (rField l m 11 a) (fun m' a' => Q (.ret (.tuple [])) [rvar l a', .var (msC m')]) (fun a' => Q (.pan eM) [rvar l a', .var (msC m)])) (N : Nat) :
    abody Tryz.prog (T60 T) 2 N Tryz.f59 [.ptr 0 0, .ptr 1 0, .int .i32 (letter 11)] [rvar l a, .var (msC m)] Q := by
  conv => whnf
  refine ⟨l, rfl, hl, ?_⟩
  rcases h1 : rMany l (rVote l) a with ⟨_ | v, b⟩
  · rw [show g106 l a = (none, b) by simp only [g106, RM.map, h1]]
    rw [show rField l m 11 a = (none, b) by simp only [rField, RM.map, h1]] at hQ
    conv => whnf
    refine Eq.mp ?_ hQ
    kernel_rfl
  rw [show g106 l a = (some (.slice (vtCL v)), b) by simp only [g106, RM.map, h1]]
  rw [show rField l m 11 a = (some { m with votes := v }, b) by simp only [rField, RM.map, h1]] at hQ
  conv => whnf
  refine Eq.mp ?_ hQ
  kernel_rfl

set_option maxRecDepth 100000 in
set_option maxHeartbeats 4000000 in
theorem f60_ok12 (l : List Int) (a : Int) (m : MsV) (hl : OkL l) (T : Tab) (Q : AOut → Heap → Prop)
    (hQ : mK (rField l m 12 a) (fun m' a' => Q (.ret (.tuple [])) [rvar l a', .var (msC m')]) (fun a' => Q (.pan eM) [rvar l a', .var (msC m)])) (N : Nat) :
    abody Tryz.prog (T60 T) 2 N Tryz.f59 [.ptr 0 0, .ptr 1 0, .int .i32 (letter 12)] [rvar l a, .var (msC m)] Q := by
  conv => whnf
  refine ⟨l, rfl, hl, ?_⟩
  rcases h1 : rMany l (rNum l) a with ⟨_ | v, b⟩
  · rw [show g108 l a = (none, b) by simp only [g108, RM.map, h1]]
    rw [show rField l m 12 a = (none, b) by simp only [rField, RM.map, h1]] at hQ
    conv => whnf
    refine Eq.mp ?_ hQ
    kernel_rfl
  rw [show g108 l a = (some (.slice (inCL v)), b) by simp only [g108, RM.map, h1]]
  rw [show rField l m 12 a = (some { m with order := v }, b) by simp only [rField, RM.map, h1]] at hQ
  conv => whnf
  refine Eq.mp ?_ hQ
  kernel_rfl

set_option maxRecDepth 100000 in
set_option maxHeartbeats 4000000 in
theorem f60_ok13 (l : List Int) (a : Int) (m : MsV) (hl : OkL l) (T : Tab) (Q : AOut → Heap → Prop)
    (hQ : mK (rField l m 13 a) (fun m' a' => Q (.ret (.tuple [])) [rvar l a', .var (msC m')]) (fun a' => Q (.pan eM) [rvar l a', .var (msC m)])) (N : Nat) :
    abody Tryz.prog (T60 T) 2 N Tryz.f59 [.ptr 0 0, .ptr 1 0, .int .i32 (letter 13)] [rvar l a, .var (msC m)] Q := by
  conv => whnf
  refine ⟨l, rfl, hl, ?_⟩
  rcases h1 : rMany l (rReq l) a with ⟨_ | v, b⟩
  · rw [show g109 l a = (none, b) by simp only [g109, RM.map, h1]]
    rw [show rField l m 13 a = (none, b) by simp only [rField, RM.map, h1]] at hQ
    conv => whnf
    refine Eq.mp ?_ hQ
    kernel_rfl
  rw [show g109 l a = (some (.slice (rqCL v)), b) by simp only [g109, RM.map, h1]]
  rw [show rField l m 13 a = (some { m with picks := v }, b) by simp only [rField, RM.map, h1]] at hQ
  conv => whnf
  refine Eq.mp ?_ hQ
  kernel_rfl

set_option maxRecDepth 100000 in
set_option maxHeartbeats 4000000 in
theorem f60_ok14 (l : List Int) (a : Int) (m : MsV) (hl : OkL l) (T : Tab) (Q : AOut → Heap → Prop)
    (hQ : mK (rField l m 14 a) (fun m' a' => Q (.ret (.tuple [])) [rvar l a', .var (msC m')]) (fun a' => Q (.pan eM) [rvar l a', .var (msC m)])) (N : Nat) :
    abody Tryz.prog (T60 T) 2 N Tryz.f59 [.ptr 0 0, .ptr 1 0, .int .i32 (letter 14)] [rvar l a, .var (msC m)] Q := by
  conv => whnf
  refine ⟨l, rfl, hl, ?_⟩
  rcases h1 : rMany l (rReport l) a with ⟨_ | v, b⟩
  · rw [show g110 l a = (none, b) by simp only [g110, RM.map, h1]]
    rw [show rField l m 14 a = (none, b) by simp only [rField, RM.map, h1]] at hQ
    conv => whnf
    refine Eq.mp ?_ hQ
    kernel_rfl
  rw [show g110 l a = (some (.slice (rpCL v)), b) by simp only [g110, RM.map, h1]]
  rw [show rField l m 14 a = (some { m with reports := v }, b) by simp only [rField, RM.map, h1]] at hQ
  conv => whnf
  refine Eq.mp ?_ hQ
  kernel_rfl

set_option maxRecDepth 100000 in
theorem s60 {T : Tab} (hT : TGood Tryz.prog T) : SGood Tryz.prog 59 fieldRT := fieldRT_good fun l a m i Q hl hi hQ => by
  have h1 := T60_good hT
  refine abody_sound h1.ok h1.ang h1.mono mixedT Tryz.func59 (entersOf Tryz.func59 (by kernel_rfl) rfl) (N := 0) ?_
  match i, hi with
  | 0, _ => exact f60_ok0 l a m hl T Q hQ 0
  | 1, _ => exact f60_ok1 l a m hl T Q hQ 0
  | 2, _ => exact f60_ok2 l a m hl T Q hQ 0
  | 3, _ => exact f60_ok3 l a m hl T Q hQ 0
  | 4, _ => exact f60_ok4 l a m hl T Q hQ 0
  | 5, _ => exact f60_ok5 l a m hl T Q hQ 0
  | 6, _ => exact f60_ok6 l a m hl T Q hQ 0
  | 7, _ => exact f60_ok7 l a m hl T Q hQ 0
  | 8, _ => exact f60_ok8 l a m hl T Q hQ 0
  | 9, _ => exact f60_ok9 l a m hl T Q hQ 0
  | 10, _ => exact f60_ok10 l a m hl T Q hQ 0
  | 11, _ => exact f60_ok11 l a m hl T Q hQ 0
  | 12, _ => exact f60_ok12 l a m hl T Q hQ 0
  | 13, _ => exact f60_ok13 l a m hl T Q hQ 0
  | 14, _ => exact f60_ok14 l a m hl T Q hQ 0
  | i + 15, hi => omega
end Go.Abs

/-
msg.Decode's deferred closure is what it comes to.
-/
namespace Go.Abs
open Go Go.Proofs

def zC : List AV := [.int .i64 0, .int .i64 0, .int .i64 0, .int .i64 0, .int .i64 0, .int .i64 0, .int .i64 0, .int .i64 0, .int .i64 0, .int .i64 0, .zslice, .zslice, .int .i64 0, .int .i64 0, .zslice, .zslice, .zslice, .zslice, .zslice, .zslice, .zslice, .zslice, .zslice]

def seqR : Code → Code
  | .seq _ y => y
  | _ => .skip
def seqL : Code → Code
  | .seq x _ => x
  | _ => .skip
def bodyOf (f : Func) : Code := match f.body with
  | some c => c
  | none => .skip
def K58 : KT := fun e _ H => e = .normal ∧ H = [.var zC, .var [.int .i64 51]]
def K58i : KT := fun e _ H => e = .normal ∧ H = []

set_option maxRecDepth 100000 in
set_option maxHeartbeats 2000000 in
theorem rest58_ok (m : MsV) (T : Tab) (N : Nat) :
    acode Tryz.prog T 2 N (seqR (bodyOf Tryz.f57)) { nxt := [], ex := [], rt := [] } K58 [.ptr 0 0, .ptr 1 0, eM, eM, .tuple [], .tuple [], .tuple [], .tuple [], .tuple []] [.var (msC m), .var [.int .i64 0]] := by
  conv => whnf
  refine Exists.intro [3, 4] ?_
  conv => whnf
  refine ⟨rfl, ?_⟩
  kernel_rfl

set_option maxRecDepth 100000 in
set_option maxHeartbeats 2000000 in
theorem rest58_idle (T : Tab) (N : Nat) :
    acode Tryz.prog T 0 N (seqR (bodyOf Tryz.f57)) { nxt := [], ex := [], rt := [] } K58i [.any, .any, .nilIface, .nilIface, .tuple [], .tuple [], .tuple [], .tuple [], .tuple []] [] := by
  conv => whnf
  exact ⟨rfl, rfl⟩

end Go.Abs

