/-
choose.Right is what it comes to.
-/
import Derived.Test.YtmainkiflkagjaaGreatDoorAbw22
namespace Go.Abs
open Go Go.Proofs


def gri : GSpec := fun args K => match args with
  | [.agg cs, .int .i64 n] => ∃ r : RpV, cs = rpC r ∧ OkRp r ∧ K (.ret (.bool (rightR r n)))
  | _ => False
theorem gri_det (args : List AV) : Det (gri args) := by
  unfold gri
  repeat' (first | exact Det.no | exact Det.at _ | refine Det.and ?_ | refine Det.ex fun _ => ?_ | refine Det.cond ?_ ?_ | split)
theorem gri_flat (args : List AV) (o : AOut) (h : gri args (· = o)) : flatO o = true := by
  unfold gri at h
  split at h
  · obtain ⟨_, _, _, rfl⟩ := h; rfl
  · exact h.elim

def T10r (T : Tab) : Tab := ext (ext (ext (ext (ext (ext (ext (ext T 31 (flatT grt)) 32 (flatT gst)) 33 (flatT gcb)) 34 (flatT gno)) 35 (flatT gak)) 37 (pureT g22)) 36 (flatT gce)) 18 (flatT g29)
theorem T10r_good {T : Tab} (hT : TGood Tryz.prog T) : TGood Tryz.prog (T10r T) := by
  have t0 := ext_good hT (srt hT)
  have t1 := ext_good t0 (sst t0)
  have t2 := ext_good t1 (scb t1)
  have t3 := ext_good t2 (sno t2)
  have t4 := ext_good t3 (sak t3)
  have t5 := ext_good t4 (s22 t4)
  have t6 := ext_good t5 (sce t5)
  exact ext_good t6 (s29 t6)
set_option maxRecDepth 100000 in
set_option maxHeartbeats 32000000 in
theorem fri_ok (r : RpV) (n : Int) (hr : OkRp r) (T : Tab) (Q : AOut → Prop) (hQ : Q (.ret (.bool (rightR r n)))) (N : Nat) (hN : r.preps.length < N) :
    abody Tryz.prog (T10r T) 0 N Tryz.f10 [.agg (rpC r), .int .i64 n] [] (fun out Hs => Q (frzO Hs out)) := by
  have hplen : (prCL r.preps).length = r.preps.length := by simp [prCL]
  have hp1 := hr.ok.2.2.1.1
  obtain ⟨hm1, hm2⟩ := repM_ok hr
  unfold rightR at hQ

  conv => whnf
  cases hrt : rightB n with
  | false =>
    rw [hrt] at hQ
    conv => whnf
    refine Eq.mp ?_ hQ
    kernel_rfl
  | true =>
  rw [hrt] at hQ
  conv => whnf
  cases h1 : decide (r.replica < 0) with
  | true =>
    rw [h1] at hQ
    conv => whnf
    refine Eq.mp ?_ hQ
    kernel_rfl
  | false =>
  rw [h1] at hQ
  conv => whnf
  cases h2 : decide (r.replica ≥ n) with
  | true =>
    rw [h2] at hQ
    conv => whnf
    refine Eq.mp ?_ hQ
    kernel_rfl
  | false =>
  rw [h2] at hQ
  conv => whnf
  refine ⟨r, rfl, hr.ok, ?_⟩
  cases hst : stabB r n with
  | false =>
    rw [hst] at hQ
    conv => whnf
    refine Eq.mp ?_ hQ
    kernel_rfl
  | true =>
  rw [hst] at hQ
  replace hQ : Q (.ret (.bool (cond (prepG r n r.low r.preps) (sealOk (repM r) r.replica) false))) := hQ
  conv => whnf
  refine aloop_at ?_ ?_ (aloop_inv (σ := Nat × Int) (fun s => ((sp 0 92 [(1, .int .i64 n), (2, .ptr 0 0), (5, .int .i64 s.2), (31, .slice (prCL r.preps)), (32, .int .i64 ((prCL r.preps).length : Nat)), (33, .int .i64 (s.1 : Nat))]), [.var (rpC r)]))
    (fun s => s.1 ≤ r.preps.length ∧ prepG r n r.low r.preps = prepG r n s.2 (r.preps.drop s.1)) (fun s => r.preps.length - s.1) ?_ N (0, r.low) ⟨Nat.zero_le _, rfl⟩ (by dsimp only; omega))
  · kernel_rfl
  · kernel_rfl
  rintro ⟨i, last⟩ ⟨i1, i2⟩ R hR
  dsimp only at i1 i2
  rw [i2] at hQ
  conv => whnf
  split
  rotate_left
  · rename_i h3; have h3 : ¬ (i : Int) < (prCL r.preps).length := of_decide_eq_false h3
    rw [hplen] at h3
    rw [List.drop_of_length_le (by omega)] at hQ
    replace hQ : Q (.ret (.bool (sealOk (repM r) r.replica))) := hQ
    conv => whnf
    refine ⟨repM r, by kernel_rfl, hm1, hm2, ?_⟩
    generalize sealOk (repM r) r.replica = b at hQ ⊢
    conv => whnf
    refine Eq.mp ?_ hQ
    kernel_rfl
  rename_i h3; have h3 : (i : Int) < (prCL r.preps).length := of_decide_eq_true h3
  rw [hplen] at h3
  obtain ⟨p, hpp⟩ : ∃ p, r.preps[i]? = some p := ⟨r.preps[i]'(by omega), List.getElem?_eq_getElem (by omega)⟩
  have hpa : (prCL r.preps)[i]? = some (prC p) := by simp [prCL, hpp]
  obtain ⟨o1, o2, o3⟩ := prep_ok hr (List.mem_of_getElem? hpp)
  rw [drop_get hpp, prepG_cons] at i2 hQ
  have hi1 : IntKind.i64.wrap ((i : Int) + 1) = ((i + 1 : Nat) : Int) := by rw [IntWalk.i64_in _ (by omega)]; omega
  conv => whnf
  refine ⟨by show (0 : Int) ≤ (i : Nat); omega, by show ((i : Nat) : Int) < ((prCL r.preps).length : Nat); omega, _, hpa, by kernel_rfl, ?_⟩
  conv => whnf
  refine ⟨[], ?_⟩
  conv => whnf
  cases h4 : decide (p.slot ≤ last) with
  | true =>
    rw [h4] at hQ
    conv => whnf
    repeat (refine ⟨rfl, ?_⟩; conv => whnf)
    refine Eq.mp ?_ hQ
    kernel_rfl
  | false =>
  rw [h4] at hQ i2
  conv => whnf
  repeat (refine ⟨rfl, ?_⟩; conv => whnf)
  cases h5 : decide (p.slot > IntKind.i64.wrap (r.low + 16)) with
  | true =>
    rw [h5] at hQ
    conv => whnf
    repeat (refine ⟨rfl, ?_⟩; conv => whnf)
    refine Eq.mp ?_ hQ
    kernel_rfl
  | false =>
  rw [h5] at hQ i2
  conv => whnf
  repeat (refine ⟨rfl, ?_⟩; conv => whnf)
  rw [show cmpB p.bal r.bal = cmpB ⟨p.bal.view, p.bal.turn⟩ ⟨r.bal.view, r.bal.turn⟩ from rfl] at hQ i2
  generalize cmpB ⟨p.bal.view, p.bal.turn⟩ ⟨r.bal.view, r.bal.turn⟩ = c at hQ i2 ⊢
  cases h6 : decide (c ≥ 0) with
  | true =>
    rw [h6] at hQ
    conv => whnf
    repeat (refine ⟨rfl, ?_⟩; conv => whnf)
    refine Eq.mp ?_ hQ
    kernel_rfl
  | false =>
  rw [h6] at hQ i2
  conv => whnf
  repeat (refine ⟨rfl, ?_⟩; conv => whnf)
  refine ⟨p.req, rfl, ?_⟩
  generalize nothB p.req = g at hQ i2 ⊢
  cases g with
  | true =>
    conv => whnf
    repeat (refine ⟨rfl, ?_⟩; conv => whnf)
    refine ⟨p.req, rfl, o1.1, ?_⟩
    replace hQ : Q (.ret (.bool (cond (cond (certB 2 p.bal.view p.bal.turn p.slot (bodyB p.req) p.cert n) (prepG r n p.slot (r.preps.drop (i + 1))) false) (sealOk (repM r) r.replica) false))) := hQ
    replace i2 : prepG r n r.low r.preps = cond (certB 2 p.bal.view p.bal.turn p.slot (bodyB p.req) p.cert n) (prepG r n p.slot (r.preps.drop (i + 1))) false := i2
    generalize bodyB p.req = bd at hQ i2 o2 o3 ⊢
    conv => whnf
    repeat (refine ⟨rfl, ?_⟩; conv => whnf)
    refine ⟨bd, p.cert, rfl, rfl, votP_ok o2 o3, o1.2, ?_⟩
    generalize certB 2 p.bal.view p.bal.turn p.slot bd p.cert n = b at hQ i2 ⊢
    cases b with
    | false =>
      conv => whnf
      repeat (refine ⟨rfl, ?_⟩; conv => whnf)
      refine Eq.mp ?_ hQ
      kernel_rfl
    | true =>
      conv => whnf
      repeat (refine ⟨rfl, ?_⟩; conv => whnf)
      refine R_at ?_ ?_ (hR (i + 1, p.slot) ⟨by omega, i2⟩ (by dsimp only; omega))
      · rw [← hi1]; kernel_rfl
      · kernel_rfl
  | false =>
    conv => whnf
    repeat (refine ⟨rfl, ?_⟩; conv => whnf)
    refine ⟨p.req, rfl, o1.1, ?_⟩
    generalize askB p.req = g2 at hQ i2 ⊢
    cases g2 with
    | false =>
      conv => whnf
      repeat (refine ⟨rfl, ?_⟩; conv => whnf)
      refine Eq.mp ?_ hQ
      kernel_rfl
    | true =>
      conv => whnf
      repeat (refine ⟨rfl, ?_⟩; conv => whnf)
      refine ⟨p.req, rfl, o1.1, ?_⟩
      replace hQ : Q (.ret (.bool (cond (cond (certB 2 p.bal.view p.bal.turn p.slot (bodyB p.req) p.cert n) (prepG r n p.slot (r.preps.drop (i + 1))) false) (sealOk (repM r) r.replica) false))) := hQ
      replace i2 : prepG r n r.low r.preps = cond (certB 2 p.bal.view p.bal.turn p.slot (bodyB p.req) p.cert n) (prepG r n p.slot (r.preps.drop (i + 1))) false := i2
      generalize bodyB p.req = bd at hQ i2 o2 o3 ⊢
      conv => whnf
      repeat (refine ⟨rfl, ?_⟩; conv => whnf)
      refine ⟨bd, p.cert, rfl, rfl, votP_ok o2 o3, o1.2, ?_⟩
      generalize certB 2 p.bal.view p.bal.turn p.slot bd p.cert n = b at hQ i2 ⊢
      cases b with
      | false =>
        conv => whnf
        repeat (refine ⟨rfl, ?_⟩; conv => whnf)
        refine Eq.mp ?_ hQ
        kernel_rfl
      | true =>
        conv => whnf
        repeat (refine ⟨rfl, ?_⟩; conv => whnf)
        refine R_at ?_ ?_ (hR (i + 1, p.slot) ⟨by omega, i2⟩ (by dsimp only; omega))
        · rw [← hi1]; kernel_rfl
        · kernel_rfl

set_option maxRecDepth 100000 in
theorem sri {T : Tab} (hT : TGood Tryz.prog T) : SGood Tryz.prog 10 (flatT gri) := flatT_good gri_det gri_flat fun args Q h => by
  unfold gri at h
  split at h
  · obtain ⟨r, rfl, hr, hQ⟩ := h
    exact body_pure (T10r_good hT) mixedT Tryz.func10 (entersOf Tryz.func10 (by kernel_rfl) rfl) _ (fri_ok r _ hr T Q hQ (r.preps.length + 1) (Nat.lt_succ_self _))
  · exact h.elim

end Go.Abs

