/-
catenaryref18.Right is what it comes to.
-/
import Derived.Test.YtmainkiflkagjaaGreatDoorAbw24
import Derived.Test.YtmainkiflkagjaaGreatDoorAbw19
import Derived.Test.YtmainkiflkagjaaGreatDoorAbw21
namespace Go.Abs
open Go Go.Proofs

set_option maxRecDepth 100000 in
set_option maxHeartbeats 64000000 in
theorem frid_ok1 (r : RpV) (n : Int) (hr : OkRp r) (h0 : (r.low == 0) = false) (T : Tab) (Q : AOut → Prop) (hQ : Q (.ret (.bool (rightR r n)))) (N : Nat) (hN : r.preps.length < N) :
    abody Tryz.prog (T11r T) 0 N Tryz.f11 [.agg (rpC r), .int .i64 n] [] (fun out Hs => Q (frzO Hs out)) := by
  have hplen : (prCL r.preps).length = r.preps.length := by simp [prCL]
  have hp1 := hr.ok.2.2.1.1
  obtain ⟨hm1, hm2⟩ := repM_ok hr
  have tF : rightR r n = false → Q (.ret (.bool false)) := fun h => by rw [h] at hQ; exact hQ
  conv => whnf
  cases hrt : rightB n with
  | false =>
    conv => whnf
    refine Eq.mp ?_ (tF (by rw [rightR_and, hrt]; rfl))
    kernel_rfl
  | true =>
  obtain ⟨n1, n2⟩ := rightB_in hrt
  have hw : IntKind.i64.wrap (n - 1) = n - 1 := by rw [IntWalk.i64_in _ (by omega)]
  conv => whnf
  cases h1 : decide (r.replica < 0) with
  | true =>
    conv => whnf
    refine Eq.mp ?_ (tF (by rw [rightR_and, hrt, h1]; rfl))
    kernel_rfl
  | false =>
  conv => whnf
  cases h2 : decide (r.replica > IntKind.i64.wrap (n - 1)) with
  | true =>
    have h2' : decide (r.replica ≥ n) = true := by have := of_decide_eq_true h2; rw [hw] at this; exact decide_eq_true (by omega)
    conv => whnf
    refine Eq.mp ?_ (tF (by rw [rightR_and, hrt, h1, h2']; rfl))
    kernel_rfl
  | false =>
  have h2' : decide (r.replica ≥ n) = false := by have := of_decide_eq_false h2; rw [hw] at this; exact decide_eq_false (by omega)
  conv => whnf
  refine ⟨repM r, by kernel_rfl, hm1, hm2, ?_⟩
  cases hs : sealOk (repM r) r.replica with
  | false =>
    conv => whnf
    refine Eq.mp ?_ (tF (by rw [rightR_and, hs]; simp))
    kernel_rfl
  | true =>
  have tT : stabB r n = true → prepG r n r.low r.preps = true → Q (.ret (.bool true)) := fun a b => by
    have : rightR r n = true := by rw [rightR_and, hrt, h1, h2', a, b, hs]; rfl
    rw [this] at hQ; exact hQ
  have tS : stabB r n = false → Q (.ret (.bool false)) := fun a => tF (by rw [rightR_and, a]; simp)
  have tP : prepG r n r.low r.preps = false → Q (.ret (.bool false)) := fun a => tF (by rw [rightR_and, a]; simp)
  clear hQ tF hs
  conv => whnf
  cases hz : (r.low == 0) with
  | true => rw [hz] at h0; cases h0
  | false =>
  have hl0 : (r.low != 0) = true := by simpa using h0
  have hne : r.low ≠ 0 := by simpa using h0
  conv => whnf
  cases hl1 : (r.low != 0) with
  | false => rw [hl0] at hl1; cases hl1
  | true =>
  conv => whnf
  cases c1 : decide (r.low < 4) with
  | true =>
    conv => whnf
    refine Eq.mp ?_ (tS (stab_lt4 h0 (of_decide_eq_true c1)))
    kernel_rfl
  | false =>
  have c1' := of_decide_eq_false c1
  have d1 : decide (r.low > 0) = true := decide_eq_true (by omega)
  conv => whnf
  cases c2 : decide (r.low > 1000000) with
  | true =>
    have d2 : decide (r.low ≤ 1000000) = false := decide_eq_false (by have := of_decide_eq_true c2; omega)
    conv => whnf
    refine Eq.mp ?_ (tS (by unfold stabB; rw [h0, d1, d2]; rfl))
    kernel_rfl
  | false =>
  have d2 : decide (r.low ≤ 1000000) = true := decide_eq_true (by have := of_decide_eq_false c2; omega)
  conv => whnf
  cases c3 : (r.low.tmod 4 != 0) with
  | true =>
    have d3 : (r.low.tmod 4 == 0) = false := by simpa using c3
    conv => whnf
    refine Eq.mp ?_ (tS (by unfold stabB; rw [h0, d1, d2, d3]; rfl))
    kernel_rfl
  | false =>
  have d3 : (r.low.tmod 4 == 0) = true := by simpa using c3
  conv => whnf
  cases c4 : (((bsA r.digest).length : Int) != 32) with
  | true =>
    have d4 : (((bsA r.digest).length : Int) == 32) = false := by simpa using c4
    conv => whnf
    refine Eq.mp ?_ (tS (by unfold stabB; rw [h0, d1, d2, d3, d4]; rfl))
    kernel_rfl
  | false =>
  have d4 : (((bsA r.digest).length : Int) == 32) = true := by simpa using c4
  have hdl : r.digest.length ≤ 900000000 := by
    have e : ((bsA r.digest).length : Int) = 32 := by simpa using c4
    rw [bsA_length] at e
    omega
  conv => whnf
  refine ⟨r.digest, r.stable, rfl, rfl, votP_ok hr.ok.1.1 hdl, hr.ok.2.1, ?_⟩
  cases hc : certB 10 0 0 r.low r.digest r.stable n with
  | false =>
    conv => whnf
    refine Eq.mp ?_ (tS (by unfold stabB; rw [h0, d1, d2, d3, d4]; exact hc))
    kernel_rfl
  | true =>
    have hst : stabB r n = true := by unfold stabB; rw [h0, d1, d2, d3, d4]; exact hc
    conv => whnf
    replace tT := tT hst
    refine aloop_at ?_ ?_ (aloop_inv (σ := Nat × Int) (fun s => ((sp 0 152 [(1, .int .i64 n), (2, .ptr 0 0), (84, .slice (prCL r.preps)), (85, .int .i64 ((prCL r.preps).length : Nat)), (86, .int .i64 (s.1 : Nat))]), [.var (rpC r)]))
      (fun s => s.1 ≤ r.preps.length ∧ prepG r n r.low r.preps = prepG r n s.2 (r.preps.drop s.1) ∧ ((s.1 = 0 ∧ s.2 = r.low) ∨ (∃ u, 1 ≤ s.1 ∧ r.preps[s.1 - 1]? = some u ∧ s.2 = u.slot ∧ r.low ≤ s.2))) (fun s => r.preps.length - s.1) ?_ N (0, r.low) ⟨Nat.zero_le _, rfl, .inl ⟨rfl, rfl⟩⟩ (by dsimp only; omega))
    · kernel_rfl
    · kernel_rfl
    rintro ⟨i, last⟩ ⟨i1, i2, iu⟩ R hR
    dsimp only at i1 i2 iu
    have hlast : r.low ≤ last := by rcases iu with ⟨_, h⟩ | ⟨_, _, _, _, h⟩ <;> omega
    conv => whnf
    split
    rotate_left
    · rename_i h3; have h3 : ¬ (i : Int) < (prCL r.preps).length := of_decide_eq_false h3
      rw [hplen] at h3
      rw [List.drop_of_length_le (by omega)] at i2
      refine Eq.mp ?_ (tT i2)
      kernel_rfl
    rename_i h3; have h3 : (i : Int) < (prCL r.preps).length := of_decide_eq_true h3
    rw [hplen] at h3
    obtain ⟨p, hpp⟩ : ∃ p, r.preps[i]? = some p := ⟨r.preps[i]'(by omega), List.getElem?_eq_getElem (by omega)⟩
    have hpa : (prCL r.preps)[i]? = some (prC p) := by simp [prCL, hpp]
    obtain ⟨o1, o2, o3⟩ := prep_ok hr (List.mem_of_getElem? hpp)
    rw [drop_get hpp, prepG_cons] at i2
    have hi1 : IntKind.i64.wrap ((i : Int) + 1) = ((i + 1 : Nat) : Int) := by rw [IntWalk.i64_in _ (by omega)]; omega
    conv => whnf
    refine ⟨by show (0 : Int) ≤ (i : Nat); omega, by show ((i : Nat) : Int) < ((prCL r.preps).length : Nat); omega, _, hpa, by kernel_rfl, ?_⟩
    conv => whnf
    refine ⟨[], ?_⟩
    conv => whnf
    have out1 : p.slot ≤ last → Q (.ret (.bool false)) := fun h => tP (by rw [i2, decide_eq_true h]; rfl)
    have rest : ¬ p.slot ≤ last → prepG r n r.low r.preps = cond (decide (p.slot > IntKind.i64.wrap (r.low + 16))) false (cond (decide (cmpB p.bal r.bal ≥ 0)) false (cond (nothB p.req || askB p.req)
        (cond (certB 2 p.bal.view p.bal.turn p.slot (bodyB p.req) p.cert n) (prepG r n p.slot (r.preps.drop (i + 1))) false) false)) := fun h => by rw [i2, decide_eq_false h]; rfl
    clear i2
    cases h4 : decide ((i : Int) > 0) with
    | false =>
      have h4 := of_decide_eq_false h4
      conv => whnf
      repeat (refine ⟨rfl, ?_⟩; conv => whnf)
      cases h7 : decide (p.slot ≤ r.low) with
      | true =>
        have h7 := of_decide_eq_true h7
        conv => whnf
        repeat (refine ⟨rfl, ?_⟩; conv => whnf)
        refine Eq.mp ?_ (out1 (by omega))
        kernel_rfl
      | false =>
      have h7 := of_decide_eq_false h7
      conv => whnf
      repeat (refine ⟨rfl, ?_⟩; conv => whnf)
      have hle : ¬ p.slot ≤ last := by
        rcases iu with ⟨_, h⟩ | ⟨_, h, _⟩ <;> omega
      replace rest := rest hle
      cases h5 : decide (p.slot > IntKind.i64.wrap (r.low + 16)) with
      | true =>
        conv => whnf
        repeat (refine ⟨rfl, ?_⟩; conv => whnf)
        refine Eq.mp ?_ (tP (by rw [rest, h5]; rfl))
        kernel_rfl
      | false =>
      rw [h5] at rest
      conv => whnf
      repeat (refine ⟨rfl, ?_⟩; conv => whnf)
      have hc := cmpB_in p.bal r.bal
      rw [show cmpB p.bal r.bal = cmpB ⟨p.bal.view, p.bal.turn⟩ ⟨r.bal.view, r.bal.turn⟩ from rfl] at rest hc
      generalize cmpB ⟨p.bal.view, p.bal.turn⟩ ⟨r.bal.view, r.bal.turn⟩ = c at rest hc ⊢
      cases h6 : (c != -1) with
      | true =>
        have h6' : c ≠ -1 := bne_iff_ne.1 h6
        conv => whnf
        refine Eq.mp ?_ (tP (by rw [rest, decide_eq_true (show c ≥ 0 by omega)]; rfl))
        kernel_rfl
      | false =>
      have h6' : c = -1 := by simpa using h6
      have h6c : decide (c ≥ 0) = false := decide_eq_false (by omega)
      rw [h6c] at rest
      conv => whnf
      refine ⟨p.req, zRq, rfl, rfl, o1.1, zRq_ok, ?_⟩
      rw [noth_eq]
      generalize nothB p.req = g at rest ⊢
      cases g with
      | true =>
        conv => whnf
        refine ⟨[], ?_⟩
        conv => whnf
        repeat (refine ⟨rfl, ?_⟩; conv => whnf)
        refine ⟨p.req, rfl, o1.1, ?_⟩
        replace rest : prepG r n r.low r.preps = cond (certB 2 p.bal.view p.bal.turn p.slot (bodyB p.req) p.cert n) (prepG r n p.slot (r.preps.drop (i + 1))) false := rest
        rw [bodyO_eq]
        generalize bodyB p.req = bd at rest o2 o3 ⊢
        conv => whnf
        repeat (refine ⟨rfl, ?_⟩; conv => whnf)
        refine ⟨bd, p.cert, rfl, rfl, votP_ok o2 o3, o1.2, ?_⟩
        generalize certB 2 p.bal.view p.bal.turn p.slot bd p.cert n = b at rest ⊢
        cases b with
        | false =>
          conv => whnf
          repeat (refine ⟨rfl, ?_⟩; conv => whnf)
          refine Eq.mp ?_ (tP rest)
          kernel_rfl
        | true =>
          conv => whnf
          repeat (refine ⟨rfl, ?_⟩; conv => whnf)
          refine R_at ?_ ?_ (hR (i + 1, p.slot) ⟨by dsimp only; omega, rest, .inr ⟨p, by dsimp only; omega, by dsimp only; rw [Nat.add_sub_cancel]; exact hpp, rfl, by dsimp only; omega⟩⟩ (by dsimp only; omega))
          · rw [← hi1]; kernel_rfl
          · kernel_rfl
      | false =>
        conv => whnf
        refine ⟨p.req, rfl, o1.1, ?_⟩
        generalize askB p.req = g2 at rest ⊢
        cases g2 with
        | false =>
          conv => whnf
          refine Eq.mp ?_ (tP (by rw [rest]; rfl))
          kernel_rfl
        | true =>
          conv => whnf
          refine ⟨[], ?_⟩
          conv => whnf
          repeat (refine ⟨rfl, ?_⟩; conv => whnf)
          refine ⟨p.req, rfl, o1.1, ?_⟩
          replace rest : prepG r n r.low r.preps = cond (certB 2 p.bal.view p.bal.turn p.slot (bodyB p.req) p.cert n) (prepG r n p.slot (r.preps.drop (i + 1))) false := rest
          rw [bodyO_eq]
          generalize bodyB p.req = bd at rest o2 o3 ⊢
          conv => whnf
          repeat (refine ⟨rfl, ?_⟩; conv => whnf)
          refine ⟨bd, p.cert, rfl, rfl, votP_ok o2 o3, o1.2, ?_⟩
          generalize certB 2 p.bal.view p.bal.turn p.slot bd p.cert n = b at rest ⊢
          cases b with
          | false =>
            conv => whnf
            repeat (refine ⟨rfl, ?_⟩; conv => whnf)
            refine Eq.mp ?_ (tP rest)
            kernel_rfl
          | true =>
            conv => whnf
            repeat (refine ⟨rfl, ?_⟩; conv => whnf)
            refine R_at ?_ ?_ (hR (i + 1, p.slot) ⟨by dsimp only; omega, rest, .inr ⟨p, by dsimp only; omega, by dsimp only; rw [Nat.add_sub_cancel]; exact hpp, rfl, by dsimp only; omega⟩⟩ (by dsimp only; omega))
            · rw [← hi1]; kernel_rfl
            · kernel_rfl
    | true =>
      have h4 := of_decide_eq_true h4
      rcases iu with ⟨h, _⟩ | ⟨u, hu1, hu2, hu3, hu4⟩
      · omega
      have hm : IntKind.i64.wrap ((i : Int) - 1) = ((i - 1 : Nat) : Int) := by rw [IntWalk.i64_in _ (by omega)]; omega
      have hua : (prCL r.preps)[(IntKind.i64.wrap ((i : Int) - 1)).toNat]? = some (prC u) := by rw [hm, Int.toNat_natCast]; simp [prCL, hu2]
      conv => whnf
      repeat (refine ⟨rfl, ?_⟩; conv => whnf)
      refine ⟨by show (0 : Int) ≤ IntKind.i64.wrap ((i : Int) - 1); rw [hm]; omega, by show IntKind.i64.wrap ((i : Int) - 1) < ((prCL r.preps).length : Nat); rw [hm]; omega, _, hua, by kernel_rfl, ?_⟩
      conv => whnf
      repeat (refine ⟨rfl, ?_⟩; conv => whnf)
      cases h8 : decide (p.slot ≤ u.slot) with
      | true =>
        have h8 := of_decide_eq_true h8
        conv => whnf
        repeat (refine ⟨rfl, ?_⟩; conv => whnf)
        refine Eq.mp ?_ (out1 (by omega))
        kernel_rfl
      | false =>
        have h8 := of_decide_eq_false h8
        conv => whnf
        repeat (refine ⟨rfl, ?_⟩; conv => whnf)
        cases h7 : decide (p.slot ≤ r.low) with
        | true =>
          have h7 := of_decide_eq_true h7
          conv => whnf
          repeat (refine ⟨rfl, ?_⟩; conv => whnf)
          refine Eq.mp ?_ (out1 (by omega))
          kernel_rfl
        | false =>
        have h7 := of_decide_eq_false h7
        conv => whnf
        repeat (refine ⟨rfl, ?_⟩; conv => whnf)
        have hle : ¬ p.slot ≤ last := by omega
        replace rest := rest hle
        cases h5 : decide (p.slot > IntKind.i64.wrap (r.low + 16)) with
        | true =>
          conv => whnf
          repeat (refine ⟨rfl, ?_⟩; conv => whnf)
          refine Eq.mp ?_ (tP (by rw [rest, h5]; rfl))
          kernel_rfl
        | false =>
        rw [h5] at rest
        conv => whnf
        repeat (refine ⟨rfl, ?_⟩; conv => whnf)
        have hc := cmpB_in p.bal r.bal
        rw [show cmpB p.bal r.bal = cmpB ⟨p.bal.view, p.bal.turn⟩ ⟨r.bal.view, r.bal.turn⟩ from rfl] at rest hc
        generalize cmpB ⟨p.bal.view, p.bal.turn⟩ ⟨r.bal.view, r.bal.turn⟩ = c at rest hc ⊢
        cases h6 : (c != -1) with
        | true =>
          have h6' : c ≠ -1 := bne_iff_ne.1 h6
          conv => whnf
          refine Eq.mp ?_ (tP (by rw [rest, decide_eq_true (show c ≥ 0 by omega)]; rfl))
          kernel_rfl
        | false =>
        have h6' : c = -1 := by simpa using h6
        have h6c : decide (c ≥ 0) = false := decide_eq_false (by omega)
        rw [h6c] at rest
        conv => whnf
        refine ⟨p.req, zRq, rfl, rfl, o1.1, zRq_ok, ?_⟩
        rw [noth_eq]
        generalize nothB p.req = g at rest ⊢
        cases g with
        | true =>
          conv => whnf
          refine ⟨[], ?_⟩
          conv => whnf
          repeat (refine ⟨rfl, ?_⟩; conv => whnf)
          refine ⟨p.req, rfl, o1.1, ?_⟩
          replace rest : prepG r n r.low r.preps = cond (certB 2 p.bal.view p.bal.turn p.slot (bodyB p.req) p.cert n) (prepG r n p.slot (r.preps.drop (i + 1))) false := rest
          rw [bodyO_eq]
          generalize bodyB p.req = bd at rest o2 o3 ⊢
          conv => whnf
          repeat (refine ⟨rfl, ?_⟩; conv => whnf)
          refine ⟨bd, p.cert, rfl, rfl, votP_ok o2 o3, o1.2, ?_⟩
          generalize certB 2 p.bal.view p.bal.turn p.slot bd p.cert n = b at rest ⊢
          cases b with
          | false =>
            conv => whnf
            repeat (refine ⟨rfl, ?_⟩; conv => whnf)
            refine Eq.mp ?_ (tP rest)
            kernel_rfl
          | true =>
            conv => whnf
            repeat (refine ⟨rfl, ?_⟩; conv => whnf)
            refine R_at ?_ ?_ (hR (i + 1, p.slot) ⟨by dsimp only; omega, rest, .inr ⟨p, by dsimp only; omega, by dsimp only; rw [Nat.add_sub_cancel]; exact hpp, rfl, by dsimp only; omega⟩⟩ (by dsimp only; omega))
            · rw [← hi1]; kernel_rfl
            · kernel_rfl
        | false =>
          conv => whnf
          refine ⟨p.req, rfl, o1.1, ?_⟩
          generalize askB p.req = g2 at rest ⊢
          cases g2 with
          | false =>
            conv => whnf
            refine Eq.mp ?_ (tP (by rw [rest]; rfl))
            kernel_rfl
          | true =>
            conv => whnf
            refine ⟨[], ?_⟩
            conv => whnf
            repeat (refine ⟨rfl, ?_⟩; conv => whnf)
            refine ⟨p.req, rfl, o1.1, ?_⟩
            replace rest : prepG r n r.low r.preps = cond (certB 2 p.bal.view p.bal.turn p.slot (bodyB p.req) p.cert n) (prepG r n p.slot (r.preps.drop (i + 1))) false := rest
            rw [bodyO_eq]
            generalize bodyB p.req = bd at rest o2 o3 ⊢
            conv => whnf
            repeat (refine ⟨rfl, ?_⟩; conv => whnf)
            refine ⟨bd, p.cert, rfl, rfl, votP_ok o2 o3, o1.2, ?_⟩
            generalize certB 2 p.bal.view p.bal.turn p.slot bd p.cert n = b at rest ⊢
            cases b with
            | false =>
              conv => whnf
              repeat (refine ⟨rfl, ?_⟩; conv => whnf)
              refine Eq.mp ?_ (tP rest)
              kernel_rfl
            | true =>
              conv => whnf
              repeat (refine ⟨rfl, ?_⟩; conv => whnf)
              refine R_at ?_ ?_ (hR (i + 1, p.slot) ⟨by dsimp only; omega, rest, .inr ⟨p, by dsimp only; omega, by dsimp only; rw [Nat.add_sub_cancel]; exact hpp, rfl, by dsimp only; omega⟩⟩ (by dsimp only; omega))
              · rw [← hi1]; kernel_rfl
              · kernel_rfl

set_option maxRecDepth 100000 in
theorem srid {T : Tab} (hT : TGood Tryz.prog T) : SGood Tryz.prog 11 (flatT gri) := flatT_good gri_det gri_flat fun args Q h => by
  unfold gri at h
  split at h
  · obtain ⟨r, rfl, hr, hQ⟩ := h
    cases h0 : (r.low == 0) with
    | true => exact body_pure (T11r_good hT) mixedT Tryz.func11 (entersOf Tryz.func11 (by kernel_rfl) rfl) _ (frid_ok0 r _ hr h0 T Q hQ (r.preps.length + 1) (Nat.lt_succ_self _))
    | false => exact body_pure (T11r_good hT) mixedT Tryz.func11 (entersOf Tryz.func11 (by kernel_rfl) rfl) _ (frid_ok1 r _ hr h0 T Q hQ (r.preps.length + 1) (Nat.lt_succ_self _))
  · exact h.elim

end Go.Abs

/-
ChooseRights: what its code comes to.
-/
namespace Go.Abs
open Go Go.Proofs

def g3r : GSpec := fun args K => match args with
  | [.agg cs, .int .i64 _] => ∃ r : RpV, cs = rpC r ∧ OkRp r ∧ K (.ret (.bool true))
  | _ => False
theorem g3r_det (args : List AV) : Det (g3r args) := by
  unfold g3r
  repeat' (first | exact Det.no | exact Det.at _ | refine Det.and ?_ | refine Det.ex fun _ => ?_ | refine Det.cond ?_ ?_ | split)
def T3r (T : Tab) : Tab := ext (ext (ext (ext (ext T 8 (flatT galive)) 9 (pureT g44)) 10 (flatT gri)) 11 (flatT gri)) 12 (flatT g57)
theorem T3r_good {T : Tab} (hT : TGood Tryz.prog T) : TGood Tryz.prog (T3r T) := by
  have t0 := ext_good hT (salive hT)
  have t1 := ext_good t0 (s44 t0)
  have t2 := ext_good t1 (sri t1)
  have t3 := ext_good t2 (srid t2)
  exact ext_good t3 (s57 t3)
set_option maxRecDepth 100000 in
set_option maxHeartbeats 8000000 in
theorem f3r_ok (r : RpV) (n : Int) (hr : OkRp r) (T : Tab) (Q : AOut → Prop) (hQ : Q (.ret (.bool true))) (N : Nat) :
    abody Tryz.prog (T3r T) 0 N Tryz.f3 [.agg (rpC r), .int .i64 n] [] (fun out Hs => Q (frzO Hs out)) := by
  conv => whnf
  refine ⟨r, rfl, hr.ok, ?_⟩
  conv => whnf
  refine ⟨[], ?_⟩
  conv => whnf
  refine ⟨r, rfl, hr, ?_⟩
  generalize hb : rightR r n = b
  conv => whnf
  repeat (refine ⟨rfl, ?_⟩; conv => whnf)
  refine ⟨r, rfl, hr, ?_⟩
  rw [hb]
  clear hb
  have hbb : (b == b) = true := by cases b <;> rfl
  cases b
  all_goals
    conv => whnf
    repeat (refine ⟨rfl, ?_⟩; conv => whnf)
    refine ⟨r, rfl, rfl, hr.ok, ?_⟩
    conv => whnf
    repeat (refine ⟨rfl, ?_⟩; conv => whnf)
    refine Eq.mp ?_ hQ
    kernel_rfl
set_option maxRecDepth 100000 in
theorem s3r {T : Tab} (hT : TGood Tryz.prog T) : SGood Tryz.prog 3 (pureT g3r) := pureT_good g3r_det fun args Q h => by
  unfold g3r at h
  split at h
  · obtain ⟨r, rfl, hr, hQ⟩ := h
    exact body_pure (T3r_good hT) mixedT Tryz.func3 (entersOf Tryz.func3 (by kernel_rfl) rfl) 0 (f3r_ok r _ hr T Q hQ 0)
  · exact h.elim
end Go.Abs

