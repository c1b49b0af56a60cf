/-
catenaryref05.SameReport of two reports that differ by their signatures at most.
-/
import Derived.Test.YtmainkiflkagjaaGreatDoorAbw19
import Derived.Test.YtmainkiflkagjaaGreatDoorAbw17
import Derived.Test.YtmainkiflkagjaaGreatDoorAbw18
namespace Go.Abs
open Go Go.Proofs

def g57b : GSpec := fun args K => match args with
  | [.agg cs, .agg ds] => ∃ (r : RpV) (s : List Int), cs = rpC r ∧ ds = rpC { r with sig := s } ∧ okRp r ∧ okB s ∧ K (.ret (.bool (decide (r.sig = s))))
  | _ => False
theorem g57b_det (args : List AV) : Det (g57b args) := by
  unfold g57b
  repeat' (first | exact Det.no | exact Det.at _ | refine Det.and ?_ | refine Det.ex fun _ => ?_ | refine Det.cond ?_ ?_ | split)
theorem g57b_flat (args : List AV) (o : AOut) (h : g57b args (· = o)) : flatO o = true := by
  unfold g57b at h
  split at h
  · obtain ⟨_, _, _, _, _, _, rfl⟩ := h; rfl
  · exact h.elim

set_option maxRecDepth 100000 in
set_option maxHeartbeats 8000000 in
theorem f57b_ok (r : RpV) (hr : okRp r) (s : List Int) (hs : okB s) (T : Tab) (Q : AOut → Prop) (hQ : Q (.ret (.bool (decide (r.sig = s))))) (N : Nat) (hN : r.preps.length < N) :
    abody Tryz.prog (T57 T) 0 N Tryz.f12 [.agg (rpC r), .agg (rpC { r with sig := s })] [] (fun out Hs => Q (frzO Hs out)) := by
  obtain ⟨hd, hst, hpr, hsg⟩ := hr
  have lp : (prCL r.preps).length = r.preps.length := by simp [prCL]
  conv => whnf
  refine ⟨eq2_25, rfl, rfl, ?_⟩
  conv => whnf
  rw [bal_self]
  conv => whnf
  rw [ne_self]
  conv => whnf
  rw [ne_self]
  conv => whnf
  refine ⟨r.digest, r.digest, rfl, rfl, hd.1, hd.1, ?_⟩
  conv => whnf
  rw [dec_self]
  conv => whnf
  refine ⟨r.stable, r.stable, rfl, rfl, hst, hst, ?_⟩
  rw [vtsEq_self]
  conv => whnf
  rw [ne_self]
  conv => whnf
  refine ⟨r.sig, s, rfl, rfl, hsg.1, hs, ?_⟩
  conv => whnf
  generalize decide (r.sig = s) = g at hQ ⊢
  cases g with
  | false =>
    conv => whnf
    refine Eq.mp ?_ hQ
    kernel_rfl
  | true =>
    conv => whnf
    refine aloop_at ?_ ?_ (aloop_inv (σ := Nat) (fun i => ((sp 0 102 [(3, .ptr 0 0), (61, .slice (prCL r.preps)), (62, .int .i64 ((prCL r.preps).length : Nat)), (63, .int .i64 (i : Nat))]), [.var (rpC { r with sig := s })]))
      (fun i => i ≤ r.preps.length) (fun i => r.preps.length - i) ?_ N 0 (Nat.zero_le _) (by omega))
    · kernel_rfl
    · kernel_rfl
    rintro i i1 R hR
    conv => whnf
    split
    rotate_left
    · refine Eq.mp ?_ hQ
      kernel_rfl
    rename_i h2; have h2 : (i : Int) < (prCL r.preps).length := of_decide_eq_true h2
    rw [lp] at h2
    obtain ⟨x, hx⟩ : ∃ x, r.preps[i]? = some x := ⟨r.preps[i]'(by omega), List.getElem?_eq_getElem (by omega)⟩
    have hxa : (prCL r.preps)[i]? = some (prC x) := by simp [prCL, hx]
    obtain ⟨ok1, ok2⟩ := hpr.2 x (List.mem_of_getElem? hx)
    have hi1 : IntKind.i64.wrap ((i : Int) + 1) = ((i + 1 : Nat) : Int) := by rw [IntWalk.i64_in _ (by have := hpr.1; omega)]; omega
    conv => whnf
    refine ⟨by omega, by rw [lp]; omega, _, hxa, by kernel_rfl, ?_⟩
    conv => whnf
    refine ⟨by omega, by rw [lp]; omega, _, hxa, by kernel_rfl, ?_⟩
    conv => whnf
    rw [ne_self]
    conv => whnf
    refine ⟨eq2_25, rfl, rfl, ?_⟩
    rw [bal_self]
    conv => whnf
    refine ⟨x.req, x.req, rfl, rfl, ok1, ok1, ?_⟩
    rw [rqEq_self]
    conv => whnf
    refine ⟨x.cert, x.cert, rfl, rfl, ok2, ok2, ?_⟩
    rw [vtsEq_self]
    conv => whnf
    refine R_at ?_ ?_ (hR (i + 1) (by omega) (by omega))
    · rw [← hi1]; kernel_rfl
    · kernel_rfl

set_option maxRecDepth 100000 in
theorem s57b {T : Tab} (hT : TGood Tryz.prog T) : SGood Tryz.prog 12 (flatT g57b) := flatT_good g57b_det g57b_flat fun args Q h => by
  unfold g57b at h
  split at h
  · obtain ⟨r, s, rfl, rfl, hr, hs, hQ⟩ := h
    have t1 := ext_good hT (s18 hT)
    have t2 := ext_good t1 (s25 t1)
    exact body_pure (ext_good t2 (s56 t2)) mixedT Tryz.func12 (entersOf Tryz.func12 (by kernel_rfl) rfl) _ (f57b_ok r hr s hs T Q hQ _ (Nat.lt_succ_self _))
  · exact h.elim
end Go.Abs

/-
catenaryref05.Same of two messages that differ by their signature at most.
-/
namespace Go.Abs
open Go Go.Proofs

def T19b (T : Tab) : Tab := ext (ext (ext (ext T 25 (flatT g18)) 21 (flatT g25)) 44 (flatT g56)) 12 (flatT g57b)

set_option maxRecDepth 100000 in
set_option maxHeartbeats 16000000 in
theorem f19b_not (m : MsV) (hm : OkM m) (s : List Int) (hs : okB s) (T : Tab) (Q : AOut → Prop) (hQ : Q (.ret (.bool (decide (m.sig = s))))) (N : Nat) (hN : m.order.length < N) (hN2 : m.picks.length < N) (hN3 : m.reports.length < N) :
    abody Tryz.prog (T19 T) 0 N Tryz.f78 [.agg (msC m), .agg (msC { m with sig := s })] [] (fun out Hs => Q (frzO Hs out)) := by
  obtain ⟨o1, o2, o3, o4, o5, o6, o7, o8, o9⟩ := hm
  conv => whnf
  rw [ne_self]
  conv => whnf
  refine ⟨eq2_25, rfl, rfl, ?_⟩
  rw [bal_self]
  conv => whnf
  rw [ne_self]
  conv => whnf
  rw [ne_self]
  conv => whnf
  rw [ne_self]
  conv => whnf
  rw [ne_self]
  conv => whnf
  rw [ne_self]
  conv => whnf
  refine ⟨m.req, m.req, rfl, rfl, o1, o1, ?_⟩
  rw [rqEq_self]
  conv => whnf
  refine ⟨m.other, m.other, rfl, rfl, o2, o2, ?_⟩
  rw [rqEq_self]
  conv => whnf
  refine ⟨m.data, m.data, rfl, rfl, o3.1, o3.1, ?_⟩
  rw [show decide (m.data = m.data) = true by simp]
  conv => whnf
  refine ⟨m.sig, s, rfl, rfl, o4.1, hs, ?_⟩
  generalize decide (m.sig = s) = g at hQ ⊢
  cases g with
  | false =>
    conv => whnf
    refine Eq.mp ?_ hQ
    kernel_rfl
  | true =>
    conv => whnf
    refine ⟨m.cert, m.cert, rfl, rfl, o5, o5, ?_⟩
    rw [vtsEq_self]
    conv => whnf
    refine ⟨m.votes, m.votes, rfl, rfl, o6, o6, ?_⟩
    rw [vtsEq_self]
    conv => whnf
    rw [ne_self]
    conv => whnf
    rw [ne_self]
    conv => whnf
    rw [ne_self]
    conv => whnf
    have l129 : (inCL m.order).length = m.order.length := by simp [inCL]
    refine aloop_at ?_ ?_ (aloop_inv (σ := Nat) (fun i => ((sp 0 182 [(2, .ptr 0 0), (3, .ptr 1 0), (128, .int .i64 ((inCL m.order).length : Nat)), (129, .int .i64 (i : Nat))]), [.var (msC m), .var (msC { m with sig := s })]))
      (fun i => i ≤ m.order.length) (fun i => m.order.length - i) ?_ N 0 (Nat.zero_le _) (by omega))
    · kernel_rfl
    · kernel_rfl
    rintro i i1 R hR
    conv => whnf
    split
    · rename_i h2; have h2 : (i : Int) < (inCL m.order).length := of_decide_eq_true h2
      rw [l129] at h2
      obtain ⟨x, hx⟩ : ∃ x, m.order[i]? = some x := ⟨m.order[i]'(by omega), List.getElem?_eq_getElem (by omega)⟩
      have hxa : (inCL m.order)[i]? = some (inC x) := by simp [inCL, hx]
      have hi1 : IntKind.i64.wrap ((i : Int) + 1) = ((i + 1 : Nat) : Int) := by rw [IntWalk.i64_in _ (by have := o7; omega)]; omega
      conv => whnf
      refine ⟨[], ?_⟩
      conv => whnf
      refine ⟨by omega, by rw [l129]; omega, _, hxa, by kernel_rfl, ?_⟩
      conv => whnf
      refine ⟨by omega, by rw [l129]; omega, _, hxa, by kernel_rfl, ?_⟩
      conv => whnf
      rw [ne_self]
      conv => whnf
      refine R_at ?_ ?_ (hR (i + 1) (by omega) (by omega))
      · rw [← hi1]; kernel_rfl
      · kernel_rfl
    conv => whnf
    clear hR R
    have l147 : (rqCL m.picks).length = m.picks.length := by simp [rqCL]
    refine aloop_at ?_ ?_ (aloop_inv (σ := Nat) (fun i => ((sp 0 182 [(2, .ptr 0 0), (3, .ptr 1 0), (146, .int .i64 ((rqCL m.picks).length : Nat)), (147, .int .i64 (i : Nat))]), [.var (msC m), .var (msC { m with sig := s })]))
      (fun i => i ≤ m.picks.length) (fun i => m.picks.length - i) ?_ N 0 (Nat.zero_le _) (by omega))
    · kernel_rfl
    · kernel_rfl
    rintro i i1 R hR
    conv => whnf
    split
    · rename_i h2; have h2 : (i : Int) < (rqCL m.picks).length := of_decide_eq_true h2
      rw [l147] at h2
      obtain ⟨x, hx⟩ : ∃ x, m.picks[i]? = some x := ⟨m.picks[i]'(by omega), List.getElem?_eq_getElem (by omega)⟩
      have hxa : (rqCL m.picks)[i]? = some (rqC x) := by simp [rqCL, hx]
      have hi1 : IntKind.i64.wrap ((i : Int) + 1) = ((i + 1 : Nat) : Int) := by rw [IntWalk.i64_in _ (by have := o8.1; omega)]; omega
      conv => whnf
      refine ⟨[], ?_⟩
      conv => whnf
      refine ⟨by omega, by rw [l147]; omega, _, hxa, by kernel_rfl, ?_⟩
      conv => whnf
      refine ⟨by omega, by rw [l147]; omega, _, hxa, by kernel_rfl, ?_⟩
      conv => whnf
      refine ⟨x, x, rfl, rfl, o8.2 x (List.mem_of_getElem? hx), o8.2 x (List.mem_of_getElem? hx), ?_⟩
      rw [rqEq_self]
      conv => whnf
      refine ⟨rfl, ?_⟩
      conv => whnf
      refine R_at ?_ ?_ (hR (i + 1) (by omega) (by omega))
      · rw [← hi1]; kernel_rfl
      · kernel_rfl
    conv => whnf
    clear hR R
    have l166 : (rpCL m.reports).length = m.reports.length := by simp [rpCL]
    refine aloop_at ?_ ?_ (aloop_inv (σ := Nat) (fun i => ((sp 0 182 [(2, .ptr 0 0), (3, .ptr 1 0), (165, .int .i64 ((rpCL m.reports).length : Nat)), (166, .int .i64 (i : Nat))]), [.var (msC m), .var (msC { m with sig := s })]))
      (fun i => i ≤ m.reports.length) (fun i => m.reports.length - i) ?_ N 0 (Nat.zero_le _) (by omega))
    · kernel_rfl
    · kernel_rfl
    rintro i i1 R hR
    conv => whnf
    split
    · rename_i h2; have h2 : (i : Int) < (rpCL m.reports).length := of_decide_eq_true h2
      rw [l166] at h2
      obtain ⟨x, hx⟩ : ∃ x, m.reports[i]? = some x := ⟨m.reports[i]'(by omega), List.getElem?_eq_getElem (by omega)⟩
      have hxa : (rpCL m.reports)[i]? = some (rpC x) := by simp [rpCL, hx]
      have hi1 : IntKind.i64.wrap ((i : Int) + 1) = ((i + 1 : Nat) : Int) := by rw [IntWalk.i64_in _ (by have := o9.1; omega)]; omega
      conv => whnf
      refine ⟨[], ?_⟩
      conv => whnf
      refine ⟨by omega, by rw [l166]; omega, _, hxa, by kernel_rfl, ?_⟩
      conv => whnf
      refine ⟨by omega, by rw [l166]; omega, _, hxa, by kernel_rfl, ?_⟩
      conv => whnf
      refine ⟨x, rfl, rfl, o9.2 x (List.mem_of_getElem? hx), ?_⟩
      conv => whnf
      refine ⟨rfl, ?_⟩
      conv => whnf
      refine R_at ?_ ?_ (hR (i + 1) (by omega) (by omega))
      · rw [← hi1]; kernel_rfl
      · kernel_rfl
    conv => whnf
    clear hR R
    refine Eq.mp ?_ hQ
    kernel_rfl

set_option maxRecDepth 100000 in
set_option maxHeartbeats 16000000 in
theorem f19b_one (m : MsV) (r : RpV) (hm : OkM { m with reports := [r] }) (s : List Int) (hs : okB s) (T : Tab) (Q : AOut → Prop) (hQ : Q (.ret (.bool (decide (r.sig = s))))) (N : Nat) (hN : m.order.length < N) (hN2 : m.picks.length < N) (hN3 : 1 < N) :
    abody Tryz.prog (T19b T) 0 N Tryz.f78 [.agg (msC { m with reports := [r] }), .agg (msC { m with reports := [{ r with sig := s }] })] [] (fun out Hs => Q (frzO Hs out)) := by
  obtain ⟨o1, o2, o3, o4, o5, o6, o7, o8, o9⟩ := hm
  dsimp only at o1 o2 o3 o4 o5 o6 o7 o8 o9
  conv => whnf
  rw [ne_self]
  conv => whnf
  refine ⟨eq2_25, rfl, rfl, ?_⟩
  rw [bal_self]
  conv => whnf
  rw [ne_self]
  conv => whnf
  rw [ne_self]
  conv => whnf
  rw [ne_self]
  conv => whnf
  rw [ne_self]
  conv => whnf
  rw [ne_self]
  conv => whnf
  refine ⟨m.req, m.req, rfl, rfl, o1, o1, ?_⟩
  rw [rqEq_self]
  conv => whnf
  refine ⟨m.other, m.other, rfl, rfl, o2, o2, ?_⟩
  rw [rqEq_self]
  conv => whnf
  refine ⟨m.data, m.data, rfl, rfl, o3.1, o3.1, ?_⟩
  rw [show decide (m.data = m.data) = true by simp]
  conv => whnf
  refine ⟨m.sig, m.sig, rfl, rfl, o4.1, o4.1, ?_⟩
  rw [show decide (m.sig = m.sig) = true by simp]
  conv => whnf
  refine ⟨m.cert, m.cert, rfl, rfl, o5, o5, ?_⟩
  rw [vtsEq_self]
  conv => whnf
  refine ⟨m.votes, m.votes, rfl, rfl, o6, o6, ?_⟩
  rw [vtsEq_self]
  conv => whnf
  rw [ne_self]
  conv => whnf
  rw [ne_self]
  conv => whnf
  have l129 : (inCL m.order).length = m.order.length := by simp [inCL]
  refine aloop_at ?_ ?_ (aloop_inv (σ := Nat) (fun i => ((sp 0 182 [(2, .ptr 0 0), (3, .ptr 1 0), (128, .int .i64 ((inCL m.order).length : Nat)), (129, .int .i64 (i : Nat))]), [.var (msC { m with reports := [r] }), .var (msC { m with reports := [{ r with sig := s }] })]))
    (fun i => i ≤ m.order.length) (fun i => m.order.length - i) ?_ N 0 (Nat.zero_le _) (by omega))
  · kernel_rfl
  · kernel_rfl
  rintro i i1 R hR
  conv => whnf
  split
  · rename_i h2; have h2 : (i : Int) < (inCL m.order).length := of_decide_eq_true h2
    rw [l129] at h2
    obtain ⟨x, hx⟩ : ∃ x, m.order[i]? = some x := ⟨m.order[i]'(by omega), List.getElem?_eq_getElem (by omega)⟩
    have hxa : (inCL m.order)[i]? = some (inC x) := by simp [inCL, hx]
    have hi1 : IntKind.i64.wrap ((i : Int) + 1) = ((i + 1 : Nat) : Int) := by rw [IntWalk.i64_in _ (by have := o7; omega)]; omega
    conv => whnf
    refine ⟨[], ?_⟩
    conv => whnf
    refine ⟨by omega, by rw [l129]; omega, _, hxa, by kernel_rfl, ?_⟩
    conv => whnf
    refine ⟨by omega, by rw [l129]; omega, _, hxa, by kernel_rfl, ?_⟩
    conv => whnf
    rw [ne_self]
    conv => whnf
    refine R_at ?_ ?_ (hR (i + 1) (by omega) (by omega))
    · rw [← hi1]; kernel_rfl
    · kernel_rfl
  conv => whnf
  clear hR R
  have l147 : (rqCL m.picks).length = m.picks.length := by simp [rqCL]
  refine aloop_at ?_ ?_ (aloop_inv (σ := Nat) (fun i => ((sp 0 182 [(2, .ptr 0 0), (3, .ptr 1 0), (146, .int .i64 ((rqCL m.picks).length : Nat)), (147, .int .i64 (i : Nat))]), [.var (msC { m with reports := [r] }), .var (msC { m with reports := [{ r with sig := s }] })]))
    (fun i => i ≤ m.picks.length) (fun i => m.picks.length - i) ?_ N 0 (Nat.zero_le _) (by omega))
  · kernel_rfl
  · kernel_rfl
  rintro i i1 R hR
  conv => whnf
  split
  · rename_i h2; have h2 : (i : Int) < (rqCL m.picks).length := of_decide_eq_true h2
    rw [l147] at h2
    obtain ⟨x, hx⟩ : ∃ x, m.picks[i]? = some x := ⟨m.picks[i]'(by omega), List.getElem?_eq_getElem (by omega)⟩
    have hxa : (rqCL m.picks)[i]? = some (rqC x) := by simp [rqCL, hx]
    have hi1 : IntKind.i64.wrap ((i : Int) + 1) = ((i + 1 : Nat) : Int) := by rw [IntWalk.i64_in _ (by have := o8.1; omega)]; omega
    conv => whnf
    refine ⟨[], ?_⟩
    conv => whnf
    refine ⟨by omega, by rw [l147]; omega, _, hxa, by kernel_rfl, ?_⟩
    conv => whnf
    refine ⟨by omega, by rw [l147]; omega, _, hxa, by kernel_rfl, ?_⟩
    conv => whnf
    refine ⟨x, x, rfl, rfl, o8.2 x (List.mem_of_getElem? hx), o8.2 x (List.mem_of_getElem? hx), ?_⟩
    rw [rqEq_self]
    conv => whnf
    refine ⟨rfl, ?_⟩
    conv => whnf
    refine R_at ?_ ?_ (hR (i + 1) (by omega) (by omega))
    · rw [← hi1]; kernel_rfl
    · kernel_rfl
  conv => whnf
  clear hR R
  refine aloop_at ?_ ?_ (aloop_inv (σ := Nat) (fun i => ((sp 0 182 [(2, .ptr 0 0), (3, .ptr 1 0), (165, .int .i64 1), (166, .int .i64 (i : Nat))]), [.var (msC { m with reports := [r] }), .var (msC { m with reports := [{ r with sig := s }] })]))
    (fun i => i ≤ 1 ∧ (i = 1 → r.sig = s)) (fun i => 1 - i) ?_ N 0 ⟨Nat.zero_le _, fun h => by cases h⟩ (by omega))
  · kernel_rfl
  · kernel_rfl
  rintro i ⟨i1, i2⟩ R hR
  have hcs : i = 0 ∨ i = 1 := by omega
  rcases hcs with rfl | rfl
  · conv => whnf
    refine ⟨[], ?_⟩
    conv => whnf
    refine ⟨by decide, by show (0 : Int) < 1; decide, rpC r, by kernel_rfl, by kernel_rfl, ?_⟩
    conv => whnf
    refine ⟨by decide, by show (0 : Int) < 1; decide, rpC { r with sig := s }, by kernel_rfl, by kernel_rfl, ?_⟩
    conv => whnf
    refine ⟨r, s, rfl, rfl, o9.2 r (by simp), hs, ?_⟩
    have hR1 := hR 1
    cases hds : decide (r.sig = s) with
    | false =>
      rw [hds] at hQ
      conv => whnf
      repeat (refine ⟨rfl, ?_⟩; conv => whnf)
      refine Eq.mp ?_ hQ
      kernel_rfl
    | true =>
      conv => whnf
      repeat (refine ⟨rfl, ?_⟩; conv => whnf)
      refine R_at ?_ ?_ (hR1 ⟨Nat.le_refl _, fun _ => of_decide_eq_true hds⟩ (by decide))
      · kernel_rfl
      · kernel_rfl
  · conv => whnf
    rw [decide_eq_true (i2 rfl)] at hQ
    refine Eq.mp ?_ hQ
    kernel_rfl


def g19b : GSpec := fun args K => match args with
  | [.agg cs, .agg ds] => ∃ (m : MsV) (s : List Int), cs = msC m ∧ ds = msC (withSig m s) ∧ OkM m ∧ okB s ∧ K (.ret (.bool (decide (sigM m = s))))
  | _ => False
theorem g19b_det (args : List AV) : Det (g19b args) := by
  unfold g19b
  repeat' (first | exact Det.no | exact Det.at _ | refine Det.and ?_ | refine Det.ex fun _ => ?_ | refine Det.cond ?_ ?_ | split)
theorem g19b_flat (args : List AV) (o : AOut) (h : g19b args (· = o)) : flatO o = true := by
  unfold g19b at h
  split at h
  · obtain ⟨_, _, _, _, _, _, rfl⟩ := h; rfl
  · exact h.elim
set_option maxRecDepth 100000 in
theorem s19b {T : Tab} (hT : TGood Tryz.prog T) : SGood Tryz.prog 78 (flatT g19b) := flatT_good g19b_det g19b_flat fun args Q h => by
  unfold g19b at h
  split at h
  · obtain ⟨m, s, rfl, rfl, hm, hs, hQ⟩ := h
    have t1 := ext_good hT (s18 hT)
    have t2 := ext_good t1 (s25 t1)
    have t3 := ext_good t2 (s56 t2)
    rcases one_cases m with ⟨r, h1, h2, h3⟩ | h1
    · have hme : m = { m with reports := [r] } := by cases m; simp only at h3; subst h3; rfl
      have hw : withSig m s = { m with reports := [{ r with sig := s }] } := by unfold withSig; rw [h1, h3]; rfl
      have hs2 : sigM m = r.sig := by unfold sigM; rw [h1, h3]
      rw [hs2] at hQ
      rw [hw]
      have hm2 : OkM { m with reports := [r] } := hme ▸ hm
      have h4 : TGood Tryz.prog (T19b _) := ext_good t3 (s57b t3)
      have := body_pure h4 mixedT Tryz.func78 (entersOf Tryz.func78 (by kernel_rfl) rfl) _ (f19b_one m r hm2 s hs _ Q hQ (m.order.length + m.picks.length + 2) (by omega) (by omega) (by omega))
      have e : msC { m with reports := [r] } = msC m := by rw [← hme]
      rw [e] at this
      exact this
    · have hw : withSig m s = { m with sig := s } := by unfold withSig; rw [h1]; rfl
      have hs2 : sigM m = m.sig := by unfold sigM; rw [h1]
      rw [hs2] at hQ
      rw [hw]
      have h4 : TGood Tryz.prog (T19 _) := ext_good t3 (s57 t3)
      exact body_pure h4 mixedT Tryz.func78 (entersOf Tryz.func78 (by kernel_rfl) rfl) _ (f19b_not m hm s hs _ Q hQ (m.order.length + m.picks.length + m.reports.length + 1) (by omega) (by omega) (by omega))
  · exact h.elim
end Go.Abs

/-
catenaryref06.Seal is what it comes to.
-/
namespace Go.Abs
open Go Go.Proofs

theorem docB_eq (m : MsV) : docB (bareM m) = sealB m := by
  unfold docB sealB
  rw [encOE_eq]
  cases h : (encE (bareM m) == 0) with
  | true =>
    rw [oS_eq _ (of_decide_eq_true h)]
  | false => rfl
set_option maxRecDepth 100000 in
theorem s31 {T : Tab} (hT : TGood Tryz.prog T) : SGood Tryz.prog 77 (pureT g28) := pureT_good g28_det fun args Q h => by
  unfold g28 at h
  split at h
  · obtain ⟨m, rfl, hm, hc, hQ⟩ := h
    have t0 := ext_good hT (s73 hT)
    have t1 := ext_good t0 (s17 t0)
    have t2 := ext_good t1 (s76 t1)
    have t3 := ext_good t2 (s77 t2)
    unfold sealT at hQ
    rw [← docB_eq, ← encOE_eq] at hQ
    exact body_pure (ext_good t3 (s78 t3)) mixedT Tryz.func77 (entersOf Tryz.func77 (by kernel_rfl) rfl) 0 (f31_ok m hm hc (fun h => by rw [docB_eq]; exact seal_okP hm (by rw [← encOE_eq]; exact h)) _ T Q hQ 0)
  · exact h.elim
def T30 (T : Tab) : Tab := ext (ext (ext (ext (ext (ext T 129 (freshT g73)) 132 (flatT g74)) 69 (pureT g17)) 119 (flatT g120)) 131 (flatT g77)) 133 (pureT (txtG signK))

set_option maxRecDepth 100000 in
set_option maxHeartbeats 8000000 in
theorem f30_one (m : MsV) (r : RpV) (h1 : oneM m = true) (hk : m.kind = 8) (hr : m.reports = [r]) (hm : OkM m) (hc : cM m ≤ 1073741824) (hp : (encOE (bareM m) == 0) = true → okP [docB (bareM m)]) (signer : Int) (T : Tab) (Q : AOut → Prop)
    (hQ : Q (.ret (.agg (msC (withSig m (cond (encOE (bareM m) == 0) (signK (replK signer) (domS m) [docB (bareM m)]) [])))))) (N : Nat) :
    abody Tryz.prog (T30 T) 0 N Tryz.f79 [.agg (msC m), .int .i64 signer] [] (fun out Hs => Q (frzO Hs out)) := by
  have hb := bare_ok hm
  have hbc := Nat.le_trans (bare_c m) hc
  have hd := domS_le m
  have hbe : bareM m = { m with reports := [{ r with sig := [] }] } := by unfold bareM withSig; rw [h1, hr]; rfl
  have hw : ∀ s, withSig m s = { m with reports := [{ r with sig := s }] } := fun s => by unfold withSig; rw [h1, hr]; rfl
  rw [hbe] at hQ hp hb hbc
  obtain ⟨kind, bal, slot, from_, to, index, count, req, other, data, sig, cert, votes, order, picks, reports⟩ := m
  dsimp only at hk hr
  subst hk; subst hr
  dsimp only at hQ hp hb hbc hbe hw
  conv => whnf
  refine ⟨(⟨8, bal, slot, from_, to, index, count, req, other, data, sig, cert, votes, order, picks, [r]⟩ : MsV), rfl, hm, ?_⟩
  rw [hbe]
  conv => whnf
  refine ⟨(⟨8, bal, slot, from_, to, index, count, req, other, data, sig, cert, votes, order, picks, [r]⟩ : MsV), by kernel_rfl, ?_⟩
  rw [h1]
  conv => whnf
  refine ⟨(⟨8, bal, slot, from_, to, index, count, req, other, data, sig, cert, votes, order, picks, [r]⟩ : MsV), by kernel_rfl, hm, ?_⟩
  rw [hbe]
  conv => whnf
  refine ⟨(⟨8, bal, slot, from_, to, index, count, req, other, data, sig, cert, votes, order, picks, [{ r with sig := [] }]⟩ : MsV), by kernel_rfl, hb, hbc, ?_⟩
  have hdef : docB (⟨8, bal, slot, from_, to, index, count, req, other, data, sig, cert, votes, order, picks, [{ r with sig := [] }]⟩ : MsV) = cond (encOE (⟨8, bal, slot, from_, to, index, count, req, other, data, sig, cert, votes, order, picks, [{ r with sig := [] }]⟩ : MsV) == 0) (oS (⟨8, bal, slot, from_, to, index, count, req, other, data, sig, cert, votes, order, picks, [{ r with sig := [] }]⟩ : MsV) 15).1 [] := rfl
  rw [← hdef]
  generalize docB (⟨8, bal, slot, from_, to, index, count, req, other, data, sig, cert, votes, order, picks, [{ r with sig := [] }]⟩ : MsV) = b at hQ hp ⊢
  generalize encOE (⟨8, bal, slot, from_, to, index, count, req, other, data, sig, cert, votes, order, picks, [{ r with sig := [] }]⟩ : MsV) = e at hQ hp ⊢
  clear hb hbc hdef hbe
  by_cases he : e = 0
  · subst he
    conv => whnf
    refine ⟨[5, 6], ?_⟩
    conv => whnf
    repeat (refine ⟨rfl, ?_⟩; conv => whnf)
    refine ⟨(⟨8, bal, slot, from_, to, index, count, req, other, data, sig, cert, votes, order, picks, [r]⟩ : MsV), rfl, ?_⟩
    conv => whnf
    repeat (first | (refine ⟨by (conv => whnf); exact ⟨rfl, rfl⟩, ?_⟩; conv => whnf) | (refine ⟨by (conv => whnf); exact ⟨(⟨8, bal, slot, from_, to, index, count, req, other, data, sig, cert, votes, order, picks, [r]⟩ : MsV), rfl, rfl, rfl⟩, ?_⟩; conv => whnf) | (refine ⟨rfl, ?_⟩; conv => whnf))
    refine ⟨[b], by kernel_rfl, hp rfl, hd, ?_⟩
    replace hQ : Q (.ret (.agg (msC (withSig (⟨8, bal, slot, from_, to, index, count, req, other, data, sig, cert, votes, order, picks, [r]⟩ : MsV) (signK (replK signer) (domS (⟨8, bal, slot, from_, to, index, count, req, other, data, sig, cert, votes, order, picks, [r]⟩ : MsV)) [b]))))) := hQ
    rw [hw] at hQ
    generalize signK (replK signer) (domS (⟨8, bal, slot, from_, to, index, count, req, other, data, sig, cert, votes, order, picks, [r]⟩ : MsV)) [b] = sg at hQ ⊢
    conv => whnf
    repeat (first | (refine ⟨by (conv => whnf); exact ⟨rfl, rfl⟩, ?_⟩; conv => whnf) | (refine ⟨by (conv => whnf); exact ⟨(⟨8, bal, slot, from_, to, index, count, req, other, data, sig, cert, votes, order, picks, [r]⟩ : MsV), rfl, rfl, rfl⟩, ?_⟩; conv => whnf) | (refine ⟨rfl, ?_⟩; conv => whnf))
    refine ⟨(⟨8, bal, slot, from_, to, index, count, req, other, data, sig, cert, votes, order, picks, [r]⟩ : MsV), by kernel_rfl, ?_⟩
    rw [h1]
    conv => whnf
    refine ⟨by kernel_rfl, by decide, by show (0 : Int) < 1; decide, ?_⟩
    conv => whnf
    refine ⟨rpC { r with sig := [] }, by kernel_rfl, of_decide_eq_true (by kernel_rfl), ?_⟩
    conv => whnf
    refine Eq.mp ?_ hQ
    kernel_rfl
  · replace hQ : Q (.ret (.agg (msC (withSig (⟨8, bal, slot, from_, to, index, count, req, other, data, sig, cert, votes, order, picks, [r]⟩ : MsV) [])))) := by rw [show (e == 0) = false from beq_eq_false_iff_ne.2 he] at hQ; exact hQ
    rw [hw] at hQ
    conv => whnf
    split
    · rename_i h
      exact absurd (of_decide_eq_true (by simpa using h)) he
    · conv => whnf
      refine ⟨(⟨8, bal, slot, from_, to, index, count, req, other, data, sig, cert, votes, order, picks, [r]⟩ : MsV), by kernel_rfl, ?_⟩
      rw [h1]
      conv => whnf
      refine ⟨by kernel_rfl, by decide, by show (0 : Int) < 1; decide, ?_⟩
      conv => whnf
      refine ⟨rpC { r with sig := [] }, by kernel_rfl, of_decide_eq_true (by kernel_rfl), ?_⟩
      conv => whnf
      refine Eq.mp ?_ hQ
      kernel_rfl


set_option maxRecDepth 100000 in
set_option maxHeartbeats 8000000 in
theorem f30_not (m : MsV) (h1 : oneM m = false) (hm : OkM m) (hc : cM m ≤ 1073741824) (hp : (encOE (bareM m) == 0) = true → okP [docB (bareM m)]) (signer : Int) (T : Tab) (Q : AOut → Prop)
    (hQ : Q (.ret (.agg (msC (withSig m (cond (encOE (bareM m) == 0) (signK (replK signer) (domS m) [docB (bareM m)]) [])))))) (N : Nat) :
    abody Tryz.prog (T30 T) 0 N Tryz.f79 [.agg (msC m), .int .i64 signer] [] (fun out Hs => Q (frzO Hs out)) := by
  have hb := bare_ok hm
  have hbc := Nat.le_trans (bare_c m) hc
  have hd := domS_le m
  have hbe : bareM m = { m with sig := [] } := by unfold bareM withSig; rw [h1]; rfl
  have hw : ∀ s, withSig m s = { m with sig := s } := fun s => by unfold withSig; rw [h1]; rfl
  rw [hbe] at hQ hp hb hbc
  obtain ⟨kind, bal, slot, from_, to, index, count, req, other, data, sig, cert, votes, order, picks, reports⟩ := m
  dsimp only at hQ hp hb hbc hbe hw
  rcases reports with _ | ⟨r0, rs⟩
  · conv => whnf
    refine ⟨(⟨kind, bal, slot, from_, to, index, count, req, other, data, sig, cert, votes, order, picks, []⟩ : MsV), rfl, hm, ?_⟩
    rw [hbe]
    conv => whnf
    refine ⟨(⟨kind, bal, slot, from_, to, index, count, req, other, data, sig, cert, votes, order, picks, []⟩ : MsV), by kernel_rfl, ?_⟩
    rw [h1]
    conv => whnf
    refine ⟨(⟨kind, bal, slot, from_, to, index, count, req, other, data, sig, cert, votes, order, picks, []⟩ : MsV), by kernel_rfl, hm, ?_⟩
    rw [hbe]
    conv => whnf
    refine ⟨(⟨kind, bal, slot, from_, to, index, count, req, other, data, [], cert, votes, order, picks, []⟩ : MsV), by kernel_rfl, hb, hbc, ?_⟩
    have hdef : docB (⟨kind, bal, slot, from_, to, index, count, req, other, data, [], cert, votes, order, picks, []⟩ : MsV) = cond (encOE (⟨kind, bal, slot, from_, to, index, count, req, other, data, [], cert, votes, order, picks, []⟩ : MsV) == 0) (oS (⟨kind, bal, slot, from_, to, index, count, req, other, data, [], cert, votes, order, picks, []⟩ : MsV) 15).1 [] := rfl
    rw [← hdef]
    generalize docB (⟨kind, bal, slot, from_, to, index, count, req, other, data, [], cert, votes, order, picks, []⟩ : MsV) = b at hQ hp ⊢
    generalize encOE (⟨kind, bal, slot, from_, to, index, count, req, other, data, [], cert, votes, order, picks, []⟩ : MsV) = e at hQ hp ⊢
    clear hb hbc hdef hbe
    by_cases he : e = 0
    · subst he
      conv => whnf
      refine ⟨[5, 6], ?_⟩
      conv => whnf
      repeat (refine ⟨rfl, ?_⟩; conv => whnf)
      refine ⟨(⟨kind, bal, slot, from_, to, index, count, req, other, data, sig, cert, votes, order, picks, []⟩ : MsV), rfl, ?_⟩
      conv => whnf
      repeat (first | (refine ⟨by (conv => whnf); exact ⟨rfl, rfl⟩, ?_⟩; conv => whnf) | (refine ⟨by (conv => whnf); exact ⟨(⟨kind, bal, slot, from_, to, index, count, req, other, data, sig, cert, votes, order, picks, []⟩ : MsV), rfl, rfl, rfl⟩, ?_⟩; conv => whnf) | (refine ⟨rfl, ?_⟩; conv => whnf))
      refine ⟨[b], by kernel_rfl, hp rfl, hd, ?_⟩
      replace hQ : Q (.ret (.agg (msC (withSig (⟨kind, bal, slot, from_, to, index, count, req, other, data, sig, cert, votes, order, picks, []⟩ : MsV) (signK (replK signer) (domS (⟨kind, bal, slot, from_, to, index, count, req, other, data, sig, cert, votes, order, picks, []⟩ : MsV)) [b]))))) := hQ
      rw [hw] at hQ
      generalize signK (replK signer) (domS (⟨kind, bal, slot, from_, to, index, count, req, other, data, sig, cert, votes, order, picks, []⟩ : MsV)) [b] = sg at hQ ⊢
      conv => whnf
      repeat (first | (refine ⟨by (conv => whnf); exact ⟨rfl, rfl⟩, ?_⟩; conv => whnf) | (refine ⟨by (conv => whnf); exact ⟨(⟨kind, bal, slot, from_, to, index, count, req, other, data, sig, cert, votes, order, picks, []⟩ : MsV), rfl, rfl, rfl⟩, ?_⟩; conv => whnf) | (refine ⟨rfl, ?_⟩; conv => whnf))
      refine ⟨(⟨kind, bal, slot, from_, to, index, count, req, other, data, sig, cert, votes, order, picks, []⟩ : MsV), by kernel_rfl, ?_⟩
      rw [h1]
      conv => whnf
      refine Eq.mp ?_ hQ
      kernel_rfl
    · replace hQ : Q (.ret (.agg (msC (withSig (⟨kind, bal, slot, from_, to, index, count, req, other, data, sig, cert, votes, order, picks, []⟩ : MsV) [])))) := by rw [show (e == 0) = false from beq_eq_false_iff_ne.2 he] at hQ; exact hQ
      rw [hw] at hQ
      conv => whnf
      split
      · rename_i h
        exact absurd (of_decide_eq_true (by simpa using h)) he
      · conv => whnf
        refine ⟨(⟨kind, bal, slot, from_, to, index, count, req, other, data, sig, cert, votes, order, picks, []⟩ : MsV), by kernel_rfl, ?_⟩
        rw [h1]
        conv => whnf
        refine Eq.mp ?_ hQ
        kernel_rfl
  · conv => whnf
    refine ⟨(⟨kind, bal, slot, from_, to, index, count, req, other, data, sig, cert, votes, order, picks, (r0 :: rs)⟩ : MsV), rfl, hm, ?_⟩
    rw [hbe]
    conv => whnf
    refine ⟨(⟨kind, bal, slot, from_, to, index, count, req, other, data, sig, cert, votes, order, picks, (r0 :: rs)⟩ : MsV), by kernel_rfl, ?_⟩
    rw [h1]
    conv => whnf
    refine ⟨(⟨kind, bal, slot, from_, to, index, count, req, other, data, sig, cert, votes, order, picks, (r0 :: rs)⟩ : MsV), by kernel_rfl, hm, ?_⟩
    rw [hbe]
    conv => whnf
    refine ⟨(⟨kind, bal, slot, from_, to, index, count, req, other, data, [], cert, votes, order, picks, (r0 :: rs)⟩ : MsV), by kernel_rfl, hb, hbc, ?_⟩
    have hdef : docB (⟨kind, bal, slot, from_, to, index, count, req, other, data, [], cert, votes, order, picks, (r0 :: rs)⟩ : MsV) = cond (encOE (⟨kind, bal, slot, from_, to, index, count, req, other, data, [], cert, votes, order, picks, (r0 :: rs)⟩ : MsV) == 0) (oS (⟨kind, bal, slot, from_, to, index, count, req, other, data, [], cert, votes, order, picks, (r0 :: rs)⟩ : MsV) 15).1 [] := rfl
    rw [← hdef]
    generalize docB (⟨kind, bal, slot, from_, to, index, count, req, other, data, [], cert, votes, order, picks, (r0 :: rs)⟩ : MsV) = b at hQ hp ⊢
    generalize encOE (⟨kind, bal, slot, from_, to, index, count, req, other, data, [], cert, votes, order, picks, (r0 :: rs)⟩ : MsV) = e at hQ hp ⊢
    clear hb hbc hdef hbe
    by_cases he : e = 0
    · subst he
      conv => whnf
      refine ⟨[5, 6], ?_⟩
      conv => whnf
      repeat (refine ⟨rfl, ?_⟩; conv => whnf)
      refine ⟨(⟨kind, bal, slot, from_, to, index, count, req, other, data, sig, cert, votes, order, picks, (r0 :: rs)⟩ : MsV), rfl, ?_⟩
      conv => whnf
      repeat (first | (refine ⟨by (conv => whnf); exact ⟨rfl, rfl⟩, ?_⟩; conv => whnf) | (refine ⟨by (conv => whnf); exact ⟨(⟨kind, bal, slot, from_, to, index, count, req, other, data, sig, cert, votes, order, picks, (r0 :: rs)⟩ : MsV), rfl, rfl, rfl⟩, ?_⟩; conv => whnf) | (refine ⟨rfl, ?_⟩; conv => whnf))
      refine ⟨[b], by kernel_rfl, hp rfl, hd, ?_⟩
      replace hQ : Q (.ret (.agg (msC (withSig (⟨kind, bal, slot, from_, to, index, count, req, other, data, sig, cert, votes, order, picks, (r0 :: rs)⟩ : MsV) (signK (replK signer) (domS (⟨kind, bal, slot, from_, to, index, count, req, other, data, sig, cert, votes, order, picks, (r0 :: rs)⟩ : MsV)) [b]))))) := hQ
      rw [hw] at hQ
      generalize signK (replK signer) (domS (⟨kind, bal, slot, from_, to, index, count, req, other, data, sig, cert, votes, order, picks, (r0 :: rs)⟩ : MsV)) [b] = sg at hQ ⊢
      conv => whnf
      repeat (first | (refine ⟨by (conv => whnf); exact ⟨rfl, rfl⟩, ?_⟩; conv => whnf) | (refine ⟨by (conv => whnf); exact ⟨(⟨kind, bal, slot, from_, to, index, count, req, other, data, sig, cert, votes, order, picks, (r0 :: rs)⟩ : MsV), rfl, rfl, rfl⟩, ?_⟩; conv => whnf) | (refine ⟨rfl, ?_⟩; conv => whnf))
      refine ⟨(⟨kind, bal, slot, from_, to, index, count, req, other, data, sig, cert, votes, order, picks, (r0 :: rs)⟩ : MsV), by kernel_rfl, ?_⟩
      rw [h1]
      conv => whnf
      refine Eq.mp ?_ hQ
      kernel_rfl
    · replace hQ : Q (.ret (.agg (msC (withSig (⟨kind, bal, slot, from_, to, index, count, req, other, data, sig, cert, votes, order, picks, (r0 :: rs)⟩ : MsV) [])))) := by rw [show (e == 0) = false from beq_eq_false_iff_ne.2 he] at hQ; exact hQ
      rw [hw] at hQ
      conv => whnf
      split
      · rename_i h
        exact absurd (of_decide_eq_true (by simpa using h)) he
      · conv => whnf
        refine ⟨(⟨kind, bal, slot, from_, to, index, count, req, other, data, sig, cert, votes, order, picks, (r0 :: rs)⟩ : MsV), by kernel_rfl, ?_⟩
        rw [h1]
        conv => whnf
        refine Eq.mp ?_ hQ
        kernel_rfl


set_option maxRecDepth 100000 in
theorem s30 {T : Tab} (hT : TGood Tryz.prog T) : SGood Tryz.prog 79 (pureT g27) := pureT_good g27_det fun args Q h => by
  unfold g27 at h
  split at h
  · obtain ⟨m, rfl, hm, hc, hQ⟩ := h
    have t0 := ext_good hT (s73 hT)
    have t1 := ext_good t0 (s74 t0)
    have t2 := ext_good t1 (s17 t1)
    have t3 := ext_good t2 (s76 t2)
    have t4 := ext_good t3 (s77 t3)
    have t5 : TGood Tryz.prog (T30 _) := ext_good t4 (s75 t4)
    unfold sealS at hQ
    rw [← docB_eq, ← encOE_eq] at hQ
    have hp : (encOE (bareM m) == 0) = true → okP [docB (bareM m)] := fun h => by rw [docB_eq]; exact seal_okP hm (by rw [← encOE_eq]; exact h)
    rcases one_cases m with ⟨r, h1, h2, h3⟩ | h1
    · exact body_pure t5 mixedT Tryz.func79 (entersOf Tryz.func79 (by kernel_rfl) rfl) 0 (f30_one m r h1 h2 h3 hm hc hp _ _ Q hQ 0)
    · exact body_pure t5 mixedT Tryz.func79 (entersOf Tryz.func79 (by kernel_rfl) rfl) 0 (f30_not m h1 hm hc hp _ _ Q hQ 0)
  · exact h.elim
end Go.Abs

/-
catenaryref06.Sealed is what it comes to.
-/
namespace Go.Abs
open Go Go.Proofs

theorem sealOk_eq (m : MsV) (signer : Int) : sealOk m signer = cond (decide (((bsA (sealT m signer)).length : Int) > 0)) (decide (sigM m = sealS m signer)) false := by
  unfold sealOk sealT sealS
  cases encE (bareM m) == 0 with
  | true => rfl
  | false => rfl
theorem sealS_ok (m : MsV) (signer : Int) : okB (sealS m signer) := by
  unfold sealS
  cases encE (bareM m) == 0 with
  | true => exact signK_ok _ _ _
  | false => exact fun _ h => by cases h
set_option maxRecDepth 100000 in
set_option maxHeartbeats 8000000 in
theorem f32_ok (m : MsV) (hm : OkM m) (hc : cM m ≤ 1073741824) (signer : Int) (T : Tab) (Q : AOut → Prop) (hQ : Q (.ret (.bool (sealOk m signer)))) (N : Nat) :
    abody Tryz.prog (ext (ext (ext T 77 (pureT g28)) 79 (pureT g27)) 78 (flatT g19b)) 0 N Tryz.f39 [.agg (msC m), .int .i64 signer] [] (fun out Hs => Q (frzO Hs out)) := by
  have hso := sealS_ok m signer
  rw [sealOk_eq] at hQ
  conv => whnf
  refine ⟨[], ?_⟩
  conv => whnf
  refine ⟨m, rfl, hm, hc, ?_⟩
  generalize sealT m signer = t at hQ ⊢
  conv => whnf
  repeat (refine ⟨rfl, ?_⟩; conv => whnf)
  generalize decide (((bsA t).length : Int) > 0) = g at hQ ⊢
  cases g with
  | false =>
    conv => whnf
    repeat (refine ⟨rfl, ?_⟩; conv => whnf)
    refine Eq.mp ?_ hQ
    kernel_rfl
  | true =>
    replace hQ : Q (.ret (.bool (decide (sigM m = sealS m signer)))) := hQ
    conv => whnf
    refine ⟨m, rfl, hm, hc, ?_⟩
    generalize sealS m signer = s at hQ hso ⊢
    conv => whnf
    repeat (refine ⟨rfl, ?_⟩; conv => whnf)
    refine ⟨m, s, rfl, rfl, hm, hso, ?_⟩
    generalize decide (sigM m = s) = g at hQ ⊢
    conv => whnf
    repeat (refine ⟨rfl, ?_⟩; conv => whnf)
    refine Eq.mp ?_ hQ
    kernel_rfl
set_option maxRecDepth 100000 in
theorem s32 {T : Tab} (hT : TGood Tryz.prog T) : SGood Tryz.prog 39 (flatT g29) := flatT_good g29_det g29_flat fun args Q h => by
  unfold g29 at h
  split at h
  · obtain ⟨m, rfl, hm, hc, hQ⟩ := h
    have t0 := ext_good hT (s31 hT)
    have t1 := ext_good t0 (s30 t0)
    exact body_pure (ext_good t1 (s19b t1)) mixedT Tryz.func39 (entersOf Tryz.func39 (by kernel_rfl) rfl) 0 (f32_ok m hm hc _ T Q hQ 0)
  · exact h.elim
end Go.Abs

