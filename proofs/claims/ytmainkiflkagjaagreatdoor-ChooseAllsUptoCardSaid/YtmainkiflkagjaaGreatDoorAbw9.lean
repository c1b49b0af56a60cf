/-
msg.list of preps is what it comes to; (*msg.writer).report; msg.list of reports.
-/
import Derived.Test.YtmainkiflkagjaaGreatDoorAbw8
import Derived.Laws.RangeString
import Derived.Test.YtmainkiflkagjaaGreatDoorAbw7
namespace Go.Abs
open Go Go.Proofs


def g128 : WSpec := fun args l bad K => match args with
  | [.slice es] => ∃ vs : List PrV, es = prCL vs ∧ vs.length ≤ 1099511627776 ∧ (∀ v ∈ vs, okPr v) ∧ wspec (wList (vs.map wPrep)) l bad K
  | _ => False
theorem g128_det (args : List AV) (l : List (List AV)) (bad : Bool) : WDet (g128 args l bad) := by
  unfold g128
  split
  · exact WDet.ex fun _ => WDet.and (WDet.and (WDet.and (wspec_det _ _ _)))
  · exact WDet.no
theorem g128_one (args : List AV) (l : List (List AV)) (bad : Bool) (Q : AV → List (List AV) → Bool → Prop) (h : g128 args l bad Q) : ∃ x, args = [x] := by
  unfold g128 at h
  split at h
  · exact ⟨_, rfl⟩
  · exact h.elim

set_option maxRecDepth 100000 in
set_option maxHeartbeats 4000000 in
theorem f128_loop (vs : List PrV) (hv : vs.length ≤ 1099511627776) (hok : ∀ v ∈ vs, okPr v) (s1 : WS) (hs1 : s1.2 = false) (hl : (wSeq (vs.map wPrep) s1).1.length ≤ 1099511627776) (T : Tab) (Q : AOut → Heap → Prop)
    (hQ : Q (.ret (.tuple [])) [wvar 2 (wSeq (vs.map wPrep) s1).2, .dead, wrow (bsA (wSeq (vs.map wPrep) s1).1)]) (m : List Int) (bad : Bool) (h0 : wNum vs.length (m, bad || decide ((vs.length : Int) > 64)) = s1) (h0l : s1.1.length ≤ 1099511627776) (N : Nat) (hN : vs.length < N) :
    abody Tryz.prog (ext (ext T 48 (writerT g46)) 140 (writerT g129)) 2 N Tryz.f139 [.ptr 0 0, .slice (prCL vs), .func (.func 140) [.ptr 0 0] []] [wvar 1 bad, wrow (bsA m)] Q := by
  have hlen : (prCL vs).length = vs.length := by simp [prCL]
  have hlenI : (((prCL vs).length : Nat) : Int) = (vs.length : Int) := by rw [hlen]
  cases bad with
  | true => exfalso; rw [← h0] at hs1; simp [wNum] at hs1
  | false =>
    conv => whnf
    rw [hlenI]
    refine ⟨m, rfl, ?_, ?_⟩
    · refine Nat.le_trans (Nat.le_of_eq ?_) h0l
      rw [← h0]
      rfl
    conv => whnf
    split
    · rename_i h1
      have h2 : (wNum (vs.length : Int) (m, false || decide ((vs.length : Int) > 64))).2 = true := h1
      rw [h0, hs1] at h2
      cases h2
    rename_i h1
    conv => whnf
    refine aloop_at ?_ ?_ (aloop_inv (σ := Nat) (fun i => ((sp 0 38 [(2, .func (.func 140) [.ptr 0 0] []), (28, .slice (prCL vs)), (29, .int .i64 ((prCL vs).length : Nat)), (30, .int .i64 (i : Nat))]), [wvar 2 (wSeq ((vs.take i).map wPrep) s1).2, .dead, wrow (bsA (wSeq ((vs.take i).map wPrep) s1).1)]))
      (fun i => i ≤ vs.length) (fun i => vs.length - i) ?_ N 0 (Nat.zero_le _) (by omega))
    · kernel_rfl
    · rw [← h0]; kernel_rfl
    intro i hi R hR
    conv => whnf
    split
    rotate_left
    · rename_i h2; have h2 : ¬ (i : Int) < (prCL vs).length := of_decide_eq_false h2
      rw [hlen] at h2
      rw [← List.take_of_length_le (show vs.length ≤ i by omega)] at hQ
      refine Eq.mp ?_ hQ
      kernel_rfl
    rename_i h2; have h2 : (i : Int) < (prCL vs).length := of_decide_eq_true h2
    rw [hlen] at h2
    obtain ⟨v, hx⟩ : ∃ v, vs[i]? = some v := ⟨vs[i]'(by omega), List.getElem?_eq_getElem (by omega)⟩
    have hxa : (prCL vs)[i]? = some (prC v) := by simp [prCL, hx]
    have hokv := hok v (List.mem_of_getElem? hx)
    have hstep : wSeq ((vs.take (i + 1)).map wPrep) s1 = wPrep v (wSeq ((vs.take i).map wPrep) s1) := wSeq_take vs wPrep i v hx s1
    have hle : (wPrep v (wSeq ((vs.take i).map wPrep) s1)).1.length ≤ 1099511627776 := by
      rw [← hstep]
      exact Nat.le_trans (wSeq_take_le vs wPrep wPrep_le (i + 1) s1) hl
    have hi1 : IntKind.i64.wrap ((i : Int) + 1) = ((i + 1 : Nat) : Int) := by rw [IntWalk.i64_in _ (by omega)]; omega
    conv => whnf
    refine ⟨by omega, by rw [hlen]; omega, _, hxa, by kernel_rfl, ?_⟩
    conv => whnf
    refine ⟨v, rfl, hokv, _, rfl, hle, ?_⟩
    conv => whnf
    refine R_at ?_ ?_ (hR (i + 1) (by omega) (by omega))
    · rw [← hi1]; kernel_rfl
    · rw [hstep]; kernel_rfl

set_option maxRecDepth 100000 in
set_option maxHeartbeats 4000000 in
theorem f128_ok (vs : List PrV) (hv : vs.length ≤ 1099511627776) (hok : ∀ v ∈ vs, okPr v) (m : List Int) (bad : Bool) (hl : (wList (vs.map wPrep) (m, bad)).1.length ≤ 1099511627776) (T : Tab) (Q : AOut → Heap → Prop)
    (hQ : Q (.ret (.tuple [])) [wvar 2 (wList (vs.map wPrep) (m, bad)).2, .dead, wrow (bsA (wList (vs.map wPrep) (m, bad)).1)]) (N : Nat) (hN : vs.length < N) :
    abody Tryz.prog (ext (ext T 48 (writerT g46)) 140 (writerT g129)) 2 N Tryz.f139 [.ptr 0 0, .slice (prCL vs), .func (.func 140) [.ptr 0 0] []] [wvar 1 bad, wrow (bsA m)] Q := by
  have hlen : (prCL vs).length = vs.length := by simp [prCL]
  have hlenI : (((prCL vs).length : Nat) : Int) = (vs.length : Int) := by rw [hlen]
  have hml : ((vs.map wPrep).length : Int) = (vs.length : Int) := by rw [List.length_map]
  unfold wList at hQ hl
  rw [hml] at hQ hl
  dsimp only at hQ hl
  generalize h0 : wNum vs.length (m, bad || decide ((vs.length : Int) > 64)) = s1 at hQ hl
  cases hb : s1.2 with
  | false =>
    rw [hb] at hQ hl
    exact f128_loop vs hv hok s1 hb hl T Q hQ m bad h0 (Nat.le_trans (wSeq_le _ (fun e he s => by
      obtain ⟨v, _, rfl⟩ := List.mem_map.1 he
      exact wPrep_le v s) s1) hl) N hN
  | true =>
    rw [hb] at hQ hl
    have hQ' : Q (.ret (.tuple [])) [wvar 2 s1.2, .dead, wrow (bsA s1.1)] := hQ
    have hl' : s1.1.length ≤ 1099511627776 := hl
    rw [hb] at hQ'
    cases bad with
    | true =>
      conv => whnf
      rw [hlenI]
      refine ⟨m, rfl, ?_, ?_⟩
      · refine Nat.le_trans (Nat.le_of_eq ?_) hl'
        rw [← h0]
        rfl
      conv => whnf
      have e1 : s1.1 = (wNum vs.length (m, true)).1 := by rw [← h0]; rfl
      rw [e1] at hQ'
      refine Eq.mp ?_ hQ'
      kernel_rfl
    | false =>
      conv => whnf
      rw [hlenI]
      refine ⟨m, rfl, ?_, ?_⟩
      · refine Nat.le_trans (Nat.le_of_eq ?_) hl'
        rw [← h0]
        rfl
      conv => whnf
      split
      · rename_i h1
        have e1 : s1.1 = (wNum vs.length (m, false || decide ((vs.length : Int) > 64))).1 := by rw [← h0]
        have e2 : (wNum vs.length (m, false || decide ((vs.length : Int) > 64))).2 = true := by rw [h0]; exact hb
        conv => whnf
        rw [e1, ← e2] at hQ'
        refine Eq.mp ?_ hQ'
        kernel_rfl
      · rename_i h1
        have h2 : (wNum (vs.length : Int) (m, false || decide ((vs.length : Int) > 64))).2 = false := h1
        rw [h0, hb] at h2
        cases h2

set_option maxRecDepth 100000 in
theorem s128 {T : Tab} (hT : TGood Tryz.prog T) : SGood Tryz.prog 139 (listT 140 g128) := listT_good g128_det (fun x l bad Q h => by
  unfold g128 at h
  split at h
  · rename_i es heq
    cases heq
    obtain ⟨vs, rfl, hv, hok, m, rfl, hl, hQ⟩ := h
    have h1 := ext_good hT (s46 hT)
    have h2 := ext_good h1 (s129 h1)
    exact abody_sound h2.ok h2.ang h2.mono mixedT Tryz.func139 (entersOf Tryz.func139 (by kernel_rfl) rfl) (f128_ok vs hv hok m bad hl T _ (wend hQ) _ (Nat.lt_succ_self _))
  · exact h.elim) g128_one


structure RpV where
  bal : BalV
  replica : Int
  low : Int
  digest : List Int
  stable : List VtV
  preps : List PrV
  sig : List Int
def rpC (r : RpV) : List AV := [.int .i64 r.bal.view, .int .i64 r.bal.turn, .int .i64 r.replica, .int .i64 r.low, .slice (bsA r.digest), .slice (vtCL r.stable), .slice (prCL r.preps), .slice (bsA r.sig)]
def rpCL (l : List RpV) : List (List AV) := l.map rpC
def okRp (r : RpV) : Prop := okT r.digest ∧ okVL r.stable ∧ (r.preps.length ≤ 1099511627776 ∧ ∀ p ∈ r.preps, okPr p) ∧ okT r.sig
def wReport (r : RpV) (s : WS) : WS := wText r.sig (wList (r.preps.map wPrep) (wVotes r.stable (wText r.digest (wNum r.low (wNum r.replica (wBal r.bal s))))))
theorem wReport_le (r : RpV) (s : WS) : s.1.length ≤ (wReport r s).1.length :=
  Nat.le_trans (wBal_le _ _) (Nat.le_trans (wNum_le _ _) (Nat.le_trans (wNum_le _ _) (Nat.le_trans (wText_le _ _) (Nat.le_trans (wVotes_le _ _) (Nat.le_trans (wListM_le _ _ wPrep_le _) (wText_le _ _))))))

def g94 : WSpec := fun args l bad K => match args with
  | [.agg cs] => ∃ r : RpV, cs = rpC r ∧ okRp r ∧ wspec (wReport r) l bad K
  | _ => False
theorem g94_det (args : List AV) (l : List (List AV)) (bad : Bool) : WDet (g94 args l bad) := by
  unfold g94
  split
  · exact WDet.ex fun _ => WDet.and (WDet.and (wspec_det _ _ _))
  · exact WDet.no

set_option maxRecDepth 100000 in
set_option maxHeartbeats 4000000 in
theorem f94_ok (r : RpV) (hr : okRp r) (m : List Int) (bad : Bool) (hl : (wReport r (m, bad)).1.length ≤ 1099511627776) (T : Tab) (Q : AOut → Heap → Prop)
    (hQ : Q (.ret (.tuple [])) [wvar 2 (wReport r (m, bad)).2, .dead, wrow (bsA (wReport r (m, bad)).1)]) (N : Nat) :
    abody Tryz.prog (ext (ext (ext (ext (ext T 48 (writerT g46)) 85 (writerT g86)) 87 (writerT g88)) 88 (listT 89 g89)) 139 (listT 140 g128)) 2 N Tryz.f93 [.ptr 0 0, .agg (rpC r)] [wvar 1 bad, wrow (bsA m)] Q := by
  have l6 := Nat.le_trans (wText_le r.sig (wList (r.preps.map wPrep) (wVotes r.stable (wText r.digest (wNum r.low (wNum r.replica (wBal r.bal (m, bad)))))))) hl
  have l5 := Nat.le_trans (wListM_le r.preps wPrep wPrep_le (wVotes r.stable (wText r.digest (wNum r.low (wNum r.replica (wBal r.bal (m, bad))))))) l6
  have l4 := Nat.le_trans (wVotes_le r.stable (wText r.digest (wNum r.low (wNum r.replica (wBal r.bal (m, bad)))))) l5
  have l3 := Nat.le_trans (wText_le r.digest (wNum r.low (wNum r.replica (wBal r.bal (m, bad))))) l4
  have l2 := Nat.le_trans (wNum_le r.low (wNum r.replica (wBal r.bal (m, bad)))) l3
  have l1 := Nat.le_trans (wNum_le r.replica (wBal r.bal (m, bad))) l2
  conv => whnf
  refine ⟨r.bal, rfl, m, rfl, l1, ?_⟩
  conv => whnf
  refine ⟨_, rfl, l2, ?_⟩
  conv => whnf
  refine ⟨_, rfl, l3, ?_⟩
  conv => whnf
  refine ⟨r.digest, rfl, hr.1.2, _, rfl, l4, ?_⟩
  conv => whnf
  refine ⟨r.stable, rfl, hr.2.1.1, hr.2.1.2, _, rfl, l5, ?_⟩
  conv => whnf
  refine ⟨r.preps, rfl, hr.2.2.1.1, hr.2.2.1.2, _, rfl, l6, ?_⟩
  conv => whnf
  refine ⟨r.sig, rfl, hr.2.2.2.2, _, rfl, hl, ?_⟩
  conv => whnf
  refine Eq.mp ?_ hQ
  kernel_rfl

set_option maxRecDepth 100000 in
theorem s94 {T : Tab} (hT : TGood Tryz.prog T) : SGood Tryz.prog 93 (writerT g94) := writerT_good g94_det fun args l bad Q h => by
  unfold g94 at h
  split at h
  · obtain ⟨p, rfl, hp, m, rfl, hl, hQ⟩ := h
    have h1 := ext_good hT (s46 hT)
    have h2 := ext_good h1 (s86 h1)
    have h3 := ext_good h2 (s88 h2)
    have h4 := ext_good h3 (s89 h3)
    have h5 := ext_good h4 (s128 h4)
    exact abody_sound h5.ok h5.ang h5.mono mixedT Tryz.func93 (entersOf Tryz.func93 (by kernel_rfl) rfl) (f94_ok p hp m bad hl T _ (wend hQ) 0)
  · exact h.elim


def g93 : WSpec := fun args l bad K => match args with
  | [.slice es] => ∃ vs : List RpV, es = rpCL vs ∧ vs.length ≤ 1099511627776 ∧ (∀ v ∈ vs, okRp v) ∧ wspec (wList (vs.map wReport)) l bad K
  | _ => False
theorem g93_det (args : List AV) (l : List (List AV)) (bad : Bool) : WDet (g93 args l bad) := by
  unfold g93
  split
  · exact WDet.ex fun _ => WDet.and (WDet.and (WDet.and (wspec_det _ _ _)))
  · exact WDet.no
theorem g93_one (args : List AV) (l : List (List AV)) (bad : Bool) (Q : AV → List (List AV) → Bool → Prop) (h : g93 args l bad Q) : ∃ x, args = [x] := by
  unfold g93 at h
  split at h
  · exact ⟨_, rfl⟩
  · exact h.elim

set_option maxRecDepth 100000 in
set_option maxHeartbeats 4000000 in
theorem f93_loop (vs : List RpV) (hv : vs.length ≤ 1099511627776) (hok : ∀ v ∈ vs, okRp v) (s1 : WS) (hs1 : s1.2 = false) (hl : (wSeq (vs.map wReport) s1).1.length ≤ 1099511627776) (T : Tab) (Q : AOut → Heap → Prop)
    (hQ : Q (.ret (.tuple [])) [wvar 2 (wSeq (vs.map wReport) s1).2, .dead, wrow (bsA (wSeq (vs.map wReport) s1).1)]) (m : List Int) (bad : Bool) (h0 : wNum vs.length (m, bad || decide ((vs.length : Int) > 64)) = s1) (h0l : s1.1.length ≤ 1099511627776) (N : Nat) (hN : vs.length < N) :
    abody Tryz.prog (ext (ext T 48 (writerT g46)) 93 (writerT g94)) 2 N Tryz.f92 [.ptr 0 0, .slice (rpCL vs), .func (.func 93) [.ptr 0 0] []] [wvar 1 bad, wrow (bsA m)] Q := by
  have hlen : (rpCL vs).length = vs.length := by simp [rpCL]
  have hlenI : (((rpCL vs).length : Nat) : Int) = (vs.length : Int) := by rw [hlen]
  cases bad with
  | true => exfalso; rw [← h0] at hs1; simp [wNum] at hs1
  | false =>
    conv => whnf
    rw [hlenI]
    refine ⟨m, rfl, ?_, ?_⟩
    · refine Nat.le_trans (Nat.le_of_eq ?_) h0l
      rw [← h0]
      rfl
    conv => whnf
    split
    · rename_i h1
      have h2 : (wNum (vs.length : Int) (m, false || decide ((vs.length : Int) > 64))).2 = true := h1
      rw [h0, hs1] at h2
      cases h2
    rename_i h1
    conv => whnf
    refine aloop_at ?_ ?_ (aloop_inv (σ := Nat) (fun i => ((sp 0 38 [(2, .func (.func 93) [.ptr 0 0] []), (28, .slice (rpCL vs)), (29, .int .i64 ((rpCL vs).length : Nat)), (30, .int .i64 (i : Nat))]), [wvar 2 (wSeq ((vs.take i).map wReport) s1).2, .dead, wrow (bsA (wSeq ((vs.take i).map wReport) s1).1)]))
      (fun i => i ≤ vs.length) (fun i => vs.length - i) ?_ N 0 (Nat.zero_le _) (by omega))
    · kernel_rfl
    · rw [← h0]; kernel_rfl
    intro i hi R hR
    conv => whnf
    split
    rotate_left
    · rename_i h2; have h2 : ¬ (i : Int) < (rpCL vs).length := of_decide_eq_false h2
      rw [hlen] at h2
      rw [← List.take_of_length_le (show vs.length ≤ i by omega)] at hQ
      refine Eq.mp ?_ hQ
      kernel_rfl
    rename_i h2; have h2 : (i : Int) < (rpCL vs).length := of_decide_eq_true h2
    rw [hlen] at h2
    obtain ⟨v, hx⟩ : ∃ v, vs[i]? = some v := ⟨vs[i]'(by omega), List.getElem?_eq_getElem (by omega)⟩
    have hxa : (rpCL vs)[i]? = some (rpC v) := by simp [rpCL, hx]
    have hokv := hok v (List.mem_of_getElem? hx)
    have hstep : wSeq ((vs.take (i + 1)).map wReport) s1 = wReport v (wSeq ((vs.take i).map wReport) s1) := wSeq_take vs wReport i v hx s1
    have hle : (wReport v (wSeq ((vs.take i).map wReport) s1)).1.length ≤ 1099511627776 := by
      rw [← hstep]
      exact Nat.le_trans (wSeq_take_le vs wReport wReport_le (i + 1) s1) hl
    have hi1 : IntKind.i64.wrap ((i : Int) + 1) = ((i + 1 : Nat) : Int) := by rw [IntWalk.i64_in _ (by omega)]; omega
    conv => whnf
    refine ⟨by omega, by rw [hlen]; omega, _, hxa, by kernel_rfl, ?_⟩
    conv => whnf
    refine ⟨v, rfl, hokv, _, rfl, hle, ?_⟩
    conv => whnf
    refine R_at ?_ ?_ (hR (i + 1) (by omega) (by omega))
    · rw [← hi1]; kernel_rfl
    · rw [hstep]; kernel_rfl

set_option maxRecDepth 100000 in
set_option maxHeartbeats 4000000 in
theorem f93_ok (vs : List RpV) (hv : vs.length ≤ 1099511627776) (hok : ∀ v ∈ vs, okRp v) (m : List Int) (bad : Bool) (hl : (wList (vs.map wReport) (m, bad)).1.length ≤ 1099511627776) (T : Tab) (Q : AOut → Heap → Prop)
    (hQ : Q (.ret (.tuple [])) [wvar 2 (wList (vs.map wReport) (m, bad)).2, .dead, wrow (bsA (wList (vs.map wReport) (m, bad)).1)]) (N : Nat) (hN : vs.length < N) :
    abody Tryz.prog (ext (ext T 48 (writerT g46)) 93 (writerT g94)) 2 N Tryz.f92 [.ptr 0 0, .slice (rpCL vs), .func (.func 93) [.ptr 0 0] []] [wvar 1 bad, wrow (bsA m)] Q := by
  have hlen : (rpCL vs).length = vs.length := by simp [rpCL]
  have hlenI : (((rpCL vs).length : Nat) : Int) = (vs.length : Int) := by rw [hlen]
  have hml : ((vs.map wReport).length : Int) = (vs.length : Int) := by rw [List.length_map]
  unfold wList at hQ hl
  rw [hml] at hQ hl
  dsimp only at hQ hl
  generalize h0 : wNum vs.length (m, bad || decide ((vs.length : Int) > 64)) = s1 at hQ hl
  cases hb : s1.2 with
  | false =>
    rw [hb] at hQ hl
    exact f93_loop vs hv hok s1 hb hl T Q hQ m bad h0 (Nat.le_trans (wSeq_le _ (fun e he s => by
      obtain ⟨v, _, rfl⟩ := List.mem_map.1 he
      exact wReport_le v s) s1) hl) N hN
  | true =>
    rw [hb] at hQ hl
    have hQ' : Q (.ret (.tuple [])) [wvar 2 s1.2, .dead, wrow (bsA s1.1)] := hQ
    have hl' : s1.1.length ≤ 1099511627776 := hl
    rw [hb] at hQ'
    cases bad with
    | true =>
      conv => whnf
      rw [hlenI]
      refine ⟨m, rfl, ?_, ?_⟩
      · refine Nat.le_trans (Nat.le_of_eq ?_) hl'
        rw [← h0]
        rfl
      conv => whnf
      have e1 : s1.1 = (wNum vs.length (m, true)).1 := by rw [← h0]; rfl
      rw [e1] at hQ'
      refine Eq.mp ?_ hQ'
      kernel_rfl
    | false =>
      conv => whnf
      rw [hlenI]
      refine ⟨m, rfl, ?_, ?_⟩
      · refine Nat.le_trans (Nat.le_of_eq ?_) hl'
        rw [← h0]
        rfl
      conv => whnf
      split
      · rename_i h1
        have e1 : s1.1 = (wNum vs.length (m, false || decide ((vs.length : Int) > 64))).1 := by rw [← h0]
        have e2 : (wNum vs.length (m, false || decide ((vs.length : Int) > 64))).2 = true := by rw [h0]; exact hb
        conv => whnf
        rw [e1, ← e2] at hQ'
        refine Eq.mp ?_ hQ'
        kernel_rfl
      · rename_i h1
        have h2 : (wNum (vs.length : Int) (m, false || decide ((vs.length : Int) > 64))).2 = false := h1
        rw [h0, hb] at h2
        cases h2

set_option maxRecDepth 100000 in
theorem s93 {T : Tab} (hT : TGood Tryz.prog T) : SGood Tryz.prog 92 (listT 93 g93) := listT_good g93_det (fun x l bad Q h => by
  unfold g93 at h
  split at h
  · rename_i es heq
    cases heq
    obtain ⟨vs, rfl, hv, hok, m, rfl, hl, hQ⟩ := h
    have h1 := ext_good hT (s46 hT)
    have h2 := ext_good h1 (s94 h1)
    exact abody_sound h2.ok h2.ang h2.mono mixedT Tryz.func92 (entersOf Tryz.func92 (by kernel_rfl) rfl) (f93_ok vs hv hok m bad hl T _ (wend hQ) _ (Nat.lt_succ_self _))
  · exact h.elim) g93_one

end Go.Abs

/-
(*msg.writer).field is what it comes to.
-/
namespace Go.Abs
open Go Go.Proofs

structure MsV where
  kind : Int
  bal : BalV
  slot : Int
  from_ : Int
  to : Int
  index : Int
  count : Int
  req : RqV
  other : RqV
  data : List Int
  sig : List Int
  cert : List VtV
  votes : List VtV
  order : List Int
  picks : List RqV
  reports : List RpV
def msC (m : MsV) : List AV := [.int .i64 m.kind, .int .i64 m.bal.view, .int .i64 m.bal.turn, .int .i64 m.slot, .int .i64 m.from_, .int .i64 m.to, .int .i64 m.index, .int .i64 m.count,
  .int .i64 m.req.client, .int .i64 m.req.stamp, .slice (bsA m.req.op), .slice (bsA m.req.sig), .int .i64 m.other.client, .int .i64 m.other.stamp, .slice (bsA m.other.op), .slice (bsA m.other.sig),
  .slice (bsA m.data), .slice (bsA m.sig), .slice (vtCL m.cert), .slice (vtCL m.votes), .slice (inCL m.order), .slice (rqCL m.picks), .slice (rpCL m.reports)]
structure OkM (m : MsV) : Prop where
  req : okR m.req
  other : okR m.other
  data : okT m.data
  sig : okT m.sig
  cert : okVL m.cert
  votes : okVL m.votes
  order : m.order.length ≤ 1099511627776
  picks : m.picks.length ≤ 1099511627776 ∧ ∀ v ∈ m.picks, okR v
  reports : m.reports.length ≤ 1099511627776 ∧ ∀ v ∈ m.reports, okRp v

/-- The letters of the fields. -/
def letter : Nat → Int
  | 0 => 98
  | 1 => 115
  | 2 => 102
  | 3 => 116
  | 4 => 105
  | 5 => 99
  | 6 => 114
  | 7 => 111
  | 8 => 100
  | 9 => 103
  | 10 => 101
  | 11 => 118
  | 12 => 112
  | 13 => 107
  | 14 => 113
  | _ => 0
def wField (m : MsV) : Nat → WS → WS
  | 0 => wBal m.bal
  | 1 => wNum m.slot
  | 2 => wNum m.from_
  | 3 => wNum m.to
  | 4 => wNum m.index
  | 5 => wNum m.count
  | 6 => wReq m.req
  | 7 => wReq m.other
  | 8 => wText m.data
  | 9 => wText m.sig
  | 10 => wVotes m.cert
  | 11 => wVotes m.votes
  | 12 => wList (m.order.map wNum)
  | 13 => wList (m.picks.map wReq)
  | 14 => wList (m.reports.map wReport)
  | _ => id
theorem wField_le (m : MsV) (i : Nat) (s : WS) : s.1.length ≤ (wField m i s).1.length := by
  match i with
  | 0 => exact wBal_le _ _
  | 1 => exact wNum_le _ _
  | 2 => exact wNum_le _ _
  | 3 => exact wNum_le _ _
  | 4 => exact wNum_le _ _
  | 5 => exact wNum_le _ _
  | 6 => exact wReq_le _ _
  | 7 => exact wReq_le _ _
  | 8 => exact wText_le _ _
  | 9 => exact wText_le _ _
  | 10 => exact wVotes_le _ _
  | 11 => exact wVotes_le _ _
  | 12 => exact wListM_le _ _ wNum_le _
  | 13 => exact wListM_le _ _ wReq_le _
  | 14 => exact wListM_le _ _ wReport_le _
  | i + 15 => exact Nat.le_refl _

def g48 : WSpec := fun args l bad K => match args with
  | [.agg cs, .int .i32 f] => ∃ (m : MsV) (i : Nat), cs = msC m ∧ OkM m ∧ i < 15 ∧ f = letter i ∧ wspec (wField m i) l bad K
  | _ => False
theorem g48_det (args : List AV) (l : List (List AV)) (bad : Bool) : WDet (g48 args l bad) := by
  unfold g48
  split
  · exact WDet.ex fun _ => WDet.ex fun _ => WDet.and (WDet.and (WDet.and (WDet.and (wspec_det _ _ _))))
  · exact WDet.no

def T48 (T : Tab) : Tab := (ext (ext (ext (ext (ext (ext (ext (ext T 48 (writerT g46)) 85 (writerT g86)) 86 (writerT g87)) 87 (writerT g88)) 88 (listT 89 g89)) 90 (listT 48 g91)) 91 (listT 86 g92)) 92 (listT 93 g93))
theorem T48_good {T : Tab} (hT : TGood Tryz.prog T) : TGood Tryz.prog (T48 T) := by
  have h0 := ext_good hT (s46 hT)
  have h1 := ext_good h0 (s86 h0)
  have h2 := ext_good h1 (s87 h1)
  have h3 := ext_good h2 (s88 h2)
  have h4 := ext_good h3 (s89 h3)
  have h5 := ext_good h4 (s91 h4)
  have h6 := ext_good h5 (s92 h5)
  have h7 := ext_good h6 (s93 h6)
  exact h7

set_option maxRecDepth 100000 in
set_option maxHeartbeats 4000000 in
theorem f48_ok0 (m : MsV) (_hm : OkM m) (l : List Int) (bad : Bool) (hl : (wField m 0 (l, bad)).1.length ≤ 1099511627776) (T : Tab) (Q : AOut → Heap → Prop)
    (hQ : Q (.ret (.tuple [])) [wvar 2 (wField m 0 (l, bad)).2, .dead, wrow (bsA (wField m 0 (l, bad)).1)]) (N : Nat) :
    abody Tryz.prog (T48 T) 2 N Tryz.f50 [.ptr 0 0, .agg (msC m), .int .i32 (letter 0)] [wvar 1 bad, wrow (bsA l)] Q := by
  conv => whnf
  refine ⟨m.bal, rfl, l, rfl, hl, ?_⟩
  conv => whnf
  refine Eq.mp ?_ hQ
  kernel_rfl

set_option maxRecDepth 100000 in
set_option maxHeartbeats 4000000 in
theorem f48_ok1 (m : MsV) (_hm : OkM m) (l : List Int) (bad : Bool) (hl : (wField m 1 (l, bad)).1.length ≤ 1099511627776) (T : Tab) (Q : AOut → Heap → Prop)
    (hQ : Q (.ret (.tuple [])) [wvar 2 (wField m 1 (l, bad)).2, .dead, wrow (bsA (wField m 1 (l, bad)).1)]) (N : Nat) :
    abody Tryz.prog (T48 T) 2 N Tryz.f50 [.ptr 0 0, .agg (msC m), .int .i32 (letter 1)] [wvar 1 bad, wrow (bsA l)] Q := by
  conv => whnf
  refine ⟨l, rfl, hl, ?_⟩
  conv => whnf
  refine Eq.mp ?_ hQ
  kernel_rfl

set_option maxRecDepth 100000 in
set_option maxHeartbeats 4000000 in
theorem f48_ok2 (m : MsV) (_hm : OkM m) (l : List Int) (bad : Bool) (hl : (wField m 2 (l, bad)).1.length ≤ 1099511627776) (T : Tab) (Q : AOut → Heap → Prop)
    (hQ : Q (.ret (.tuple [])) [wvar 2 (wField m 2 (l, bad)).2, .dead, wrow (bsA (wField m 2 (l, bad)).1)]) (N : Nat) :
    abody Tryz.prog (T48 T) 2 N Tryz.f50 [.ptr 0 0, .agg (msC m), .int .i32 (letter 2)] [wvar 1 bad, wrow (bsA l)] Q := by
  conv => whnf
  refine ⟨l, rfl, hl, ?_⟩
  conv => whnf
  refine Eq.mp ?_ hQ
  kernel_rfl

set_option maxRecDepth 100000 in
set_option maxHeartbeats 4000000 in
theorem f48_ok3 (m : MsV) (_hm : OkM m) (l : List Int) (bad : Bool) (hl : (wField m 3 (l, bad)).1.length ≤ 1099511627776) (T : Tab) (Q : AOut → Heap → Prop)
    (hQ : Q (.ret (.tuple [])) [wvar 2 (wField m 3 (l, bad)).2, .dead, wrow (bsA (wField m 3 (l, bad)).1)]) (N : Nat) :
    abody Tryz.prog (T48 T) 2 N Tryz.f50 [.ptr 0 0, .agg (msC m), .int .i32 (letter 3)] [wvar 1 bad, wrow (bsA l)] Q := by
  conv => whnf
  refine ⟨l, rfl, hl, ?_⟩
  conv => whnf
  refine Eq.mp ?_ hQ
  kernel_rfl

set_option maxRecDepth 100000 in
set_option maxHeartbeats 4000000 in
theorem f48_ok4 (m : MsV) (_hm : OkM m) (l : List Int) (bad : Bool) (hl : (wField m 4 (l, bad)).1.length ≤ 1099511627776) (T : Tab) (Q : AOut → Heap → Prop)
    (hQ : Q (.ret (.tuple [])) [wvar 2 (wField m 4 (l, bad)).2, .dead, wrow (bsA (wField m 4 (l, bad)).1)]) (N : Nat) :
    abody Tryz.prog (T48 T) 2 N Tryz.f50 [.ptr 0 0, .agg (msC m), .int .i32 (letter 4)] [wvar 1 bad, wrow (bsA l)] Q := by
  conv => whnf
  refine ⟨l, rfl, hl, ?_⟩
  conv => whnf
  refine Eq.mp ?_ hQ
  kernel_rfl

set_option maxRecDepth 100000 in
set_option maxHeartbeats 4000000 in
theorem f48_ok5 (m : MsV) (_hm : OkM m) (l : List Int) (bad : Bool) (hl : (wField m 5 (l, bad)).1.length ≤ 1099511627776) (T : Tab) (Q : AOut → Heap → Prop)
    (hQ : Q (.ret (.tuple [])) [wvar 2 (wField m 5 (l, bad)).2, .dead, wrow (bsA (wField m 5 (l, bad)).1)]) (N : Nat) :
    abody Tryz.prog (T48 T) 2 N Tryz.f50 [.ptr 0 0, .agg (msC m), .int .i32 (letter 5)] [wvar 1 bad, wrow (bsA l)] Q := by
  conv => whnf
  refine ⟨l, rfl, hl, ?_⟩
  conv => whnf
  refine Eq.mp ?_ hQ
  kernel_rfl

set_option maxRecDepth 100000 in
set_option maxHeartbeats 4000000 in
theorem f48_ok6 (m : MsV) (hm : OkM m) (l : List Int) (bad : Bool) (hl : (wField m 6 (l, bad)).1.length ≤ 1099511627776) (T : Tab) (Q : AOut → Heap → Prop)
    (hQ : Q (.ret (.tuple [])) [wvar 2 (wField m 6 (l, bad)).2, .dead, wrow (bsA (wField m 6 (l, bad)).1)]) (N : Nat) :
    abody Tryz.prog (T48 T) 2 N Tryz.f50 [.ptr 0 0, .agg (msC m), .int .i32 (letter 6)] [wvar 1 bad, wrow (bsA l)] Q := by
  conv => whnf
  refine ⟨m.req, rfl, hm.req, l, rfl, hl, ?_⟩
  conv => whnf
  refine Eq.mp ?_ hQ
  kernel_rfl

set_option maxRecDepth 100000 in
set_option maxHeartbeats 4000000 in
theorem f48_ok7 (m : MsV) (hm : OkM m) (l : List Int) (bad : Bool) (hl : (wField m 7 (l, bad)).1.length ≤ 1099511627776) (T : Tab) (Q : AOut → Heap → Prop)
    (hQ : Q (.ret (.tuple [])) [wvar 2 (wField m 7 (l, bad)).2, .dead, wrow (bsA (wField m 7 (l, bad)).1)]) (N : Nat) :
    abody Tryz.prog (T48 T) 2 N Tryz.f50 [.ptr 0 0, .agg (msC m), .int .i32 (letter 7)] [wvar 1 bad, wrow (bsA l)] Q := by
  conv => whnf
  refine ⟨m.other, rfl, hm.other, l, rfl, hl, ?_⟩
  conv => whnf
  refine Eq.mp ?_ hQ
  kernel_rfl

set_option maxRecDepth 100000 in
set_option maxHeartbeats 4000000 in
theorem f48_ok8 (m : MsV) (hm : OkM m) (l : List Int) (bad : Bool) (hl : (wField m 8 (l, bad)).1.length ≤ 1099511627776) (T : Tab) (Q : AOut → Heap → Prop)
    (hQ : Q (.ret (.tuple [])) [wvar 2 (wField m 8 (l, bad)).2, .dead, wrow (bsA (wField m 8 (l, bad)).1)]) (N : Nat) :
    abody Tryz.prog (T48 T) 2 N Tryz.f50 [.ptr 0 0, .agg (msC m), .int .i32 (letter 8)] [wvar 1 bad, wrow (bsA l)] Q := by
  conv => whnf
  refine ⟨m.data, rfl, hm.data.2, l, rfl, hl, ?_⟩
  conv => whnf
  refine Eq.mp ?_ hQ
  kernel_rfl

set_option maxRecDepth 100000 in
set_option maxHeartbeats 4000000 in
theorem f48_ok9 (m : MsV) (hm : OkM m) (l : List Int) (bad : Bool) (hl : (wField m 9 (l, bad)).1.length ≤ 1099511627776) (T : Tab) (Q : AOut → Heap → Prop)
    (hQ : Q (.ret (.tuple [])) [wvar 2 (wField m 9 (l, bad)).2, .dead, wrow (bsA (wField m 9 (l, bad)).1)]) (N : Nat) :
    abody Tryz.prog (T48 T) 2 N Tryz.f50 [.ptr 0 0, .agg (msC m), .int .i32 (letter 9)] [wvar 1 bad, wrow (bsA l)] Q := by
  conv => whnf
  refine ⟨m.sig, rfl, hm.sig.2, l, rfl, hl, ?_⟩
  conv => whnf
  refine Eq.mp ?_ hQ
  kernel_rfl

set_option maxRecDepth 100000 in
set_option maxHeartbeats 4000000 in
theorem f48_ok10 (m : MsV) (hm : OkM m) (l : List Int) (bad : Bool) (hl : (wField m 10 (l, bad)).1.length ≤ 1099511627776) (T : Tab) (Q : AOut → Heap → Prop)
    (hQ : Q (.ret (.tuple [])) [wvar 2 (wField m 10 (l, bad)).2, .dead, wrow (bsA (wField m 10 (l, bad)).1)]) (N : Nat) :
    abody Tryz.prog (T48 T) 2 N Tryz.f50 [.ptr 0 0, .agg (msC m), .int .i32 (letter 10)] [wvar 1 bad, wrow (bsA l)] Q := by
  conv => whnf
  refine ⟨m.cert, rfl, hm.cert.1, hm.cert.2, l, rfl, hl, ?_⟩
  conv => whnf
  refine Eq.mp ?_ hQ
  kernel_rfl

set_option maxRecDepth 100000 in
set_option maxHeartbeats 4000000 in
theorem f48_ok11 (m : MsV) (hm : OkM m) (l : List Int) (bad : Bool) (hl : (wField m 11 (l, bad)).1.length ≤ 1099511627776) (T : Tab) (Q : AOut → Heap → Prop)
    (hQ : Q (.ret (.tuple [])) [wvar 2 (wField m 11 (l, bad)).2, .dead, wrow (bsA (wField m 11 (l, bad)).1)]) (N : Nat) :
    abody Tryz.prog (T48 T) 2 N Tryz.f50 [.ptr 0 0, .agg (msC m), .int .i32 (letter 11)] [wvar 1 bad, wrow (bsA l)] Q := by
  conv => whnf
  refine ⟨m.votes, rfl, hm.votes.1, hm.votes.2, l, rfl, hl, ?_⟩
  conv => whnf
  refine Eq.mp ?_ hQ
  kernel_rfl

set_option maxRecDepth 100000 in
set_option maxHeartbeats 4000000 in
theorem f48_ok12 (m : MsV) (hm : OkM m) (l : List Int) (bad : Bool) (hl : (wField m 12 (l, bad)).1.length ≤ 1099511627776) (T : Tab) (Q : AOut → Heap → Prop)
    (hQ : Q (.ret (.tuple [])) [wvar 2 (wField m 12 (l, bad)).2, .dead, wrow (bsA (wField m 12 (l, bad)).1)]) (N : Nat) :
    abody Tryz.prog (T48 T) 2 N Tryz.f50 [.ptr 0 0, .agg (msC m), .int .i32 (letter 12)] [wvar 1 bad, wrow (bsA l)] Q := by
  conv => whnf
  refine ⟨m.order, rfl, hm.order, fun _ _ => trivial, l, rfl, hl, ?_⟩
  conv => whnf
  refine Eq.mp ?_ hQ
  kernel_rfl

set_option maxRecDepth 100000 in
set_option maxHeartbeats 4000000 in
theorem f48_ok13 (m : MsV) (hm : OkM m) (l : List Int) (bad : Bool) (hl : (wField m 13 (l, bad)).1.length ≤ 1099511627776) (T : Tab) (Q : AOut → Heap → Prop)
    (hQ : Q (.ret (.tuple [])) [wvar 2 (wField m 13 (l, bad)).2, .dead, wrow (bsA (wField m 13 (l, bad)).1)]) (N : Nat) :
    abody Tryz.prog (T48 T) 2 N Tryz.f50 [.ptr 0 0, .agg (msC m), .int .i32 (letter 13)] [wvar 1 bad, wrow (bsA l)] Q := by
  conv => whnf
  refine ⟨m.picks, rfl, hm.picks.1, hm.picks.2, l, rfl, hl, ?_⟩
  conv => whnf
  refine Eq.mp ?_ hQ
  kernel_rfl

set_option maxRecDepth 100000 in
set_option maxHeartbeats 4000000 in
theorem f48_ok14 (m : MsV) (hm : OkM m) (l : List Int) (bad : Bool) (hl : (wField m 14 (l, bad)).1.length ≤ 1099511627776) (T : Tab) (Q : AOut → Heap → Prop)
    (hQ : Q (.ret (.tuple [])) [wvar 2 (wField m 14 (l, bad)).2, .dead, wrow (bsA (wField m 14 (l, bad)).1)]) (N : Nat) :
    abody Tryz.prog (T48 T) 2 N Tryz.f50 [.ptr 0 0, .agg (msC m), .int .i32 (letter 14)] [wvar 1 bad, wrow (bsA l)] Q := by
  conv => whnf
  refine ⟨m.reports, rfl, hm.reports.1, hm.reports.2, l, rfl, hl, ?_⟩
  conv => whnf
  refine Eq.mp ?_ hQ
  kernel_rfl

set_option maxRecDepth 100000 in
theorem s48 {T : Tab} (hT : TGood Tryz.prog T) : SGood Tryz.prog 50 (writerT g48) := writerT_good g48_det fun args l bad Q h => by
  unfold g48 at h
  split at h
  · obtain ⟨m, i, rfl, hm, hi, rfl, n, rfl, hl, hQ⟩ := h
    have h1 := T48_good hT
    refine abody_sound h1.ok h1.ang h1.mono mixedT Tryz.func50 (entersOf Tryz.func50 (by kernel_rfl) rfl) (N := 0) ?_
    match i, hi with
    | 0, _ => exact f48_ok0 m hm n bad hl T _ (wend hQ) 0
    | 1, _ => exact f48_ok1 m hm n bad hl T _ (wend hQ) 0
    | 2, _ => exact f48_ok2 m hm n bad hl T _ (wend hQ) 0
    | 3, _ => exact f48_ok3 m hm n bad hl T _ (wend hQ) 0
    | 4, _ => exact f48_ok4 m hm n bad hl T _ (wend hQ) 0
    | 5, _ => exact f48_ok5 m hm n bad hl T _ (wend hQ) 0
    | 6, _ => exact f48_ok6 m hm n bad hl T _ (wend hQ) 0
    | 7, _ => exact f48_ok7 m hm n bad hl T _ (wend hQ) 0
    | 8, _ => exact f48_ok8 m hm n bad hl T _ (wend hQ) 0
    | 9, _ => exact f48_ok9 m hm n bad hl T _ (wend hQ) 0
    | 10, _ => exact f48_ok10 m hm n bad hl T _ (wend hQ) 0
    | 11, _ => exact f48_ok11 m hm n bad hl T _ (wend hQ) 0
    | 12, _ => exact f48_ok12 m hm n bad hl T _ (wend hQ) 0
    | 13, _ => exact f48_ok13 m hm n bad hl T _ (wend hQ) 0
    | 14, _ => exact f48_ok14 m hm n bad hl T _ (wend hQ) 0
    | i + 15, hi => omega
  · exact h.elim
end Go.Abs

/-
msg.fields, msg.hasRune are what they come to.
-/
namespace Go.Abs
open Go Go.Proofs

theorem baOf_size (l : List Int) : (baOf l).size = l.length := by simp [baOf, ByteArray.size]
theorem dec_baOf {l : List Int} (hl : ∀ b ∈ l, 0 ≤ b ∧ b < 128) {i : Nat} {b : Int} (h : l[i]? = some b) : Utf8.decode (baOf l) i = (b.toNat, 1) := by
  have hi := (List.getElem?_eq_some_iff.1 h).1
  have hb := hl b (List.mem_of_getElem? h)
  have hg : ((baOf l)[i]'(by rw [baOf_size]; exact hi)) = UInt8.ofNat b.toNat := by
    have : (baOf l)[i]'(by rw [baOf_size]; exact hi) = (baOf l).data[i]'(by simpa [baOf] using hi) := rfl
    rw [this]
    simp only [baOf, List.getElem_toArray, List.getElem_map]
    congr 2
    exact (List.getElem?_eq_some_iff.1 h).2
  have hn : (UInt8.ofNat b.toNat).toNat = b.toNat := by rw [UInt8.toNat_ofNat']; omega
  rw [decode_ascii (baOf l) i (by rw [baOf_size]; exact hi) (by rw [hg, hn]; omega), hg, hn]

/-- The letters of a kind's fields. -/
def fieldsL (k : Int) : List Int :=
  cond (k == 1) [114] <|
  cond (k == 2) [98, 115, 114, 118] <|
  cond (k == 4) [98, 115, 114, 118] <|
  cond (k == 24) [98, 115, 114, 118] <|
  cond (k == 3) [98, 115, 114, 101, 118] <|
  cond (k == 5) [102, 116, 105, 100, 103] <|
  cond (k == 6) [98, 102, 116, 103] <|
  cond (k == 7) [98, 102, 116, 103, 101] <|
  cond (k == 8) [113] <|
  cond (k == 9) [98, 103, 112, 113] <|
  cond (k == 10) [115, 100, 118] <|
  cond (k == 11) [115, 102] <|
  cond (k == 12) [115, 102, 105, 99, 100, 103] <|
  cond (k == 13) [98, 115, 102, 105, 114, 111, 100, 103] <|
  cond (k == 20) [98] <|
  cond (k == 21) [98, 115, 112, 107] <|
  cond (k == 22) [98, 115, 114] <|
  cond (k == 23) [98, 115, 114, 101] <|
  cond (k == 25) [115, 100, 101] <|
  []

def g45 : GSpec := fun args K => match args with
  | [.int .i64 k] => K (.ret (.str (baOf (fieldsL k))))
  | _ => False
theorem g45_det (args : List AV) : Det (g45 args) := by
  unfold g45
  repeat' (first | exact Det.no | exact Det.at _ | refine Det.and ?_ | refine Det.ex fun _ => ?_ | refine Det.cond ?_ ?_ | split)
theorem g45_flat (args : List AV) (o : AOut) (h : g45 args (· = o)) : flatO o = true := by
  unfold g45 at h
  split at h
  · cases h; rfl
  · exact h.elim

set_option maxRecDepth 100000 in
set_option maxHeartbeats 4000000 in
theorem f45_ok (k : Int) (T : Tab) (Q : AOut → Prop) (hQ : Q (.ret (.str (baOf (fieldsL k))))) (N : Nat) :
    abody Tryz.prog T 0 N Tryz.f47 [.int .i64 k] [] (fun out Hs => Q (frzO Hs out)) := by
  unfold fieldsL at hQ
  conv => whnf
  split
  · rename_i h; have h : (k == 1) = true := h
    simp only [h, cond_true] at hQ
    refine Eq.mp ?_ hQ
    kernel_rfl
  rename_i h; have h : (k == 1) = false := h
  simp only [h] at hQ
  clear h
  conv => whnf
  split
  · rename_i h; have h : (k == 2) = true := h
    simp only [h, cond_true] at hQ
    refine Eq.mp ?_ hQ
    kernel_rfl
  rename_i h; have h : (k == 2) = false := h
  simp only [h] at hQ
  clear h
  conv => whnf
  split
  · rename_i h; have h : (k == 4) = true := h
    simp only [h, cond_true] at hQ
    refine Eq.mp ?_ hQ
    kernel_rfl
  rename_i h; have h : (k == 4) = false := h
  simp only [h] at hQ
  clear h
  conv => whnf
  split
  · rename_i h; have h : (k == 24) = true := h
    simp only [h, cond_true] at hQ
    refine Eq.mp ?_ hQ
    kernel_rfl
  rename_i h; have h : (k == 24) = false := h
  simp only [h] at hQ
  clear h
  conv => whnf
  split
  · rename_i h; have h : (k == 3) = true := h
    simp only [h, cond_true] at hQ
    refine Eq.mp ?_ hQ
    kernel_rfl
  rename_i h; have h : (k == 3) = false := h
  simp only [h] at hQ
  clear h
  conv => whnf
  split
  · rename_i h; have h : (k == 5) = true := h
    simp only [h, cond_true] at hQ
    refine Eq.mp ?_ hQ
    kernel_rfl
  rename_i h; have h : (k == 5) = false := h
  simp only [h] at hQ
  clear h
  conv => whnf
  split
  · rename_i h; have h : (k == 6) = true := h
    simp only [h, cond_true] at hQ
    refine Eq.mp ?_ hQ
    kernel_rfl
  rename_i h; have h : (k == 6) = false := h
  simp only [h] at hQ
  clear h
  conv => whnf
  split
  · rename_i h; have h : (k == 7) = true := h
    simp only [h, cond_true] at hQ
    refine Eq.mp ?_ hQ
    kernel_rfl
  rename_i h; have h : (k == 7) = false := h
  simp only [h] at hQ
  clear h
  conv => whnf
  split
  · rename_i h; have h : (k == 8) = true := h
    simp only [h, cond_true] at hQ
    refine Eq.mp ?_ hQ
    kernel_rfl
  rename_i h; have h : (k == 8) = false := h
  simp only [h] at hQ
  clear h
  conv => whnf
  split
  · rename_i h; have h : (k == 9) = true := h
    simp only [h, cond_true] at hQ
    refine Eq.mp ?_ hQ
    kernel_rfl
  rename_i h; have h : (k == 9) = false := h
  simp only [h] at hQ
  clear h
  conv => whnf
  split
  · rename_i h; have h : (k == 10) = true := h
    simp only [h, cond_true] at hQ
    refine Eq.mp ?_ hQ
    kernel_rfl
  rename_i h; have h : (k == 10) = false := h
  simp only [h] at hQ
  clear h
  conv => whnf
  split
  · rename_i h; have h : (k == 11) = true := h
    simp only [h, cond_true] at hQ
    refine Eq.mp ?_ hQ
    kernel_rfl
  rename_i h; have h : (k == 11) = false := h
  simp only [h] at hQ
  clear h
  conv => whnf
  split
  · rename_i h; have h : (k == 12) = true := h
    simp only [h, cond_true] at hQ
    refine Eq.mp ?_ hQ
    kernel_rfl
  rename_i h; have h : (k == 12) = false := h
  simp only [h] at hQ
  clear h
  conv => whnf
  split
  · rename_i h; have h : (k == 13) = true := h
    simp only [h, cond_true] at hQ
    refine Eq.mp ?_ hQ
    kernel_rfl
  rename_i h; have h : (k == 13) = false := h
  simp only [h] at hQ
  clear h
  conv => whnf
  split
  · rename_i h; have h : (k == 20) = true := h
    simp only [h, cond_true] at hQ
    refine Eq.mp ?_ hQ
    kernel_rfl
  rename_i h; have h : (k == 20) = false := h
  simp only [h] at hQ
  clear h
  conv => whnf
  split
  · rename_i h; have h : (k == 21) = true := h
    simp only [h, cond_true] at hQ
    refine Eq.mp ?_ hQ
    kernel_rfl
  rename_i h; have h : (k == 21) = false := h
  simp only [h] at hQ
  clear h
  conv => whnf
  split
  · rename_i h; have h : (k == 22) = true := h
    simp only [h, cond_true] at hQ
    refine Eq.mp ?_ hQ
    kernel_rfl
  rename_i h; have h : (k == 22) = false := h
  simp only [h] at hQ
  clear h
  conv => whnf
  split
  · rename_i h; have h : (k == 23) = true := h
    simp only [h, cond_true] at hQ
    refine Eq.mp ?_ hQ
    kernel_rfl
  rename_i h; have h : (k == 23) = false := h
  simp only [h] at hQ
  clear h
  conv => whnf
  split
  · rename_i h; have h : (k == 25) = true := h
    simp only [h, cond_true] at hQ
    refine Eq.mp ?_ hQ
    kernel_rfl
  rename_i h; have h : (k == 25) = false := h
  simp only [h] at hQ
  clear h
  conv => whnf
  refine Eq.mp ?_ hQ
  kernel_rfl

set_option maxRecDepth 100000 in
theorem s45 {T : Tab} (hT : TGood Tryz.prog T) : SGood Tryz.prog 47 (flatT g45) := flatT_good g45_det g45_flat fun args Q h => by
  unfold g45 at h
  split at h
  · exact body_pure hT mixedT Tryz.func47 (entersOf Tryz.func47 (by kernel_rfl) rfl) 0 (f45_ok _ T Q h 0)
  · exact h.elim

def okA (l : List Int) : Prop := ∀ b ∈ l, 0 ≤ b ∧ b < 128
def g47 : GSpec := fun args K => match args with
  | [.str s, .int .i32 r] => ∃ l : List Int, s = baOf l ∧ okA l ∧ l.length ≤ 1000 ∧ K (.ret (.bool (l.contains r)))
  | _ => False
theorem g47_det (args : List AV) : Det (g47 args) := by
  unfold g47
  repeat' (first | exact Det.no | exact Det.at _ | refine Det.and ?_ | refine Det.ex fun _ => ?_ | refine Det.cond ?_ ?_ | split)
theorem g47_flat (args : List AV) (o : AOut) (h : g47 args (· = o)) : flatO o = true := by
  unfold g47 at h
  split at h
  · obtain ⟨_, _, _, _, rfl⟩ := h; rfl
  · exact h.elim

set_option maxRecDepth 100000 in
set_option maxHeartbeats 4000000 in
theorem f47_ok (l : List Int) (r : Int) (hl : okA l) (_hln : l.length ≤ 1000) (T : Tab) (Q : AOut → Prop) (hQ : Q (.ret (.bool (l.contains r)))) (N : Nat) (hN : l.length < N) :
    abody Tryz.prog T 0 N Tryz.f49 [.str (baOf l), .int .i32 r] [] (fun out Hs => Q (frzO Hs out)) := by
  conv => whnf
  refine aloop_at ?_ ?_ (aloop_inv (σ := Nat) (fun i => ((sp 0 15 [(1, .int .i32 r), (8, .ptr 0 0)]), [.iter (baOf l) i]))
    (fun i => i ≤ l.length ∧ l.contains r = (l.drop i).contains r) (fun i => l.length - i) ?_ N 0 ⟨Nat.zero_le _, rfl⟩ (by omega))
  · kernel_rfl
  · kernel_rfl
  rintro i ⟨hi, hc⟩ R hR
  conv => whnf
  split
  rotate_left
  · rename_i h1
    have h1 : ¬ i < (baOf l).size := fun h => by rw [← Nat.blt_eq] at h; rw [show Nat.blt i (baOf l).size = false from h1] at h; cases h
    rw [baOf_size] at h1
    rw [hc, List.drop_of_length_le (by omega)] at hQ
    conv => whnf
    refine Eq.mp ?_ hQ
    kernel_rfl
  rename_i h1
  have h1 : i < (baOf l).size := Nat.blt_eq.mp h1
  rw [baOf_size] at h1
  obtain ⟨b, hb⟩ : ∃ b, l[i]? = some b := ⟨l[i]'h1, List.getElem?_eq_getElem h1⟩
  have hd := dec_baOf hl hb
  have hb0 := (hl b (List.mem_of_getElem? hb)).1
  have hd1 : ((Utf8.decode (baOf l) i).1 : Int) = b := by rw [hd]; show ((b.toNat : Nat) : Int) = b; omega
  have hd2 : (Utf8.decode (baOf l) i).2 = 1 := by rw [hd]
  have hstep : l.contains r = ((r == b) || (l.drop (i + 1)).contains r) := by
    rw [hc, List.drop_eq_getElem_cons h1, List.contains_cons]
    have : l[i]'h1 = b := (List.getElem?_eq_some_iff.1 hb).2
    rw [this]
  conv => whnf
  rw [hd1]
  split
  · rename_i h2; have h2 : (b == r) = true := h2
    have h3 : (r == b) = true := by rw [beq_iff_eq] at *; exact h2.symm
    rw [hstep, h3, Bool.true_or] at hQ
    conv => whnf
    refine Eq.mp ?_ hQ
    kernel_rfl
  rename_i h2; have h2 : (b == r) = false := h2
  have h3 : (r == b) = false := by
    rw [beq_eq_false_iff_ne] at *
    exact fun e => h2 e.symm
  conv => whnf
  refine R_at ?_ ?_ (hR (i + 1) ⟨by omega, by rw [hstep, h3, Bool.false_or]⟩ (by omega))
  · kernel_rfl
  · have hH : [HO.iter (baOf l) (i + (Utf8.decode (baOf l) i).2)] = [HO.iter (baOf l) (i + 1)] := by rw [hd2]
    refine Eq.trans ?_ hH
    kernel_rfl

set_option maxRecDepth 100000 in
theorem s47 {T : Tab} (hT : TGood Tryz.prog T) : SGood Tryz.prog 49 (flatT g47) := flatT_good g47_det g47_flat fun args Q h => by
  unfold g47 at h
  split at h
  · obtain ⟨l, rfl, hl, hln, hQ⟩ := h
    exact body_pure hT mixedT Tryz.func49 (entersOf Tryz.func49 (by kernel_rfl) rfl) _ (f47_ok l _ hl hln T Q hQ _ (Nat.lt_succ_self _))
  · exact h.elim
end Go.Abs

/-
Plain laws of what a writer writes: how long it is, and that it is bytes; no program.
-/
namespace Go.Abs
open Go

def sumN {α : Type} (f : α → Nat) (l : List α) : Nat := (l.map f).sum
theorem sumN_cons {α : Type} (f : α → Nat) (x : α) (l : List α) : sumN f (x :: l) = f x + sumN f l := by simp [sumN]
theorem sumN_nil {α : Type} (f : α → Nat) : sumN f [] = 0 := rfl
def cT (p : List Int) : Nat := p.length + 6
def cR (r : RqV) : Nat := 12 + cT r.op + cT r.sig
def cV (v : VtV) : Nat := 6 + cT v.sig
def cVs (l : List VtV) : Nat := 6 + sumN cV l
def cPr (p : PrV) : Nat := 18 + cR p.req + cVs p.cert
def cRp (r : RpV) : Nat := 24 + cT r.digest + cVs r.stable + (6 + sumN cPr r.preps) + cT r.sig
def cM (m : MsV) : Nat := 42 + cR m.req + cR m.other + cT m.data + cT m.sig + cVs m.cert + cVs m.votes + (6 + 6 * m.order.length) + (6 + sumN cR m.picks) + (6 + sumN cRp m.reports)

theorem wNum_c (n : Int) (s : WS) : (wNum n s).1.length ≤ s.1.length + 6 := by
  have := encI_len n
  simp only [wNum, List.length_append]
  split <;> simp <;> omega
theorem encB_len (p : List Int) : (encB p).length ≤ p.length + 6 := by
  have := encI_len p.length
  simp only [encB, List.length_append]
  omega
theorem wText_c (p : List Int) (s : WS) : (wText p s).1.length ≤ s.1.length + cT p := by
  have := encB_len p
  simp only [wText, List.length_append, cT]
  omega
theorem wBal_c (b : BalV) (s : WS) : (wBal b s).1.length ≤ s.1.length + 12 := by
  have := wNum_c b.view s
  have := wNum_c b.turn (wNum b.view s)
  simp only [wBal]
  omega
theorem wReq_c (r : RqV) (s : WS) : (wReq r s).1.length ≤ s.1.length + cR r := by
  have h1 := wNum_c r.client s
  have h2 := wNum_c r.stamp (wNum r.client s)
  have h3 := wText_c r.op (wNum r.stamp (wNum r.client s))
  have h4 := wText_c r.sig (wText r.op (wNum r.stamp (wNum r.client s)))
  simp only [wReq, cR]
  omega
theorem wVote_c (v : VtV) (s : WS) : (wVote v s).1.length ≤ s.1.length + cV v := by
  have h1 := wNum_c v.signer s
  have h2 := wText_c v.sig (wNum v.signer s)
  simp only [wVote, cV]
  omega
theorem wSeq_c {α : Type} (e : α → WS → WS) (c : α → Nat) (h : ∀ v s, (e v s).1.length ≤ s.1.length + c v) : ∀ (l : List α) (s : WS), (wSeq (l.map e) s).1.length ≤ s.1.length + sumN c l
  | [], s => Nat.le_refl _
  | x :: l, s => by
    have h1 := h x s
    have h2 := wSeq_c e c h l (e x s)
    rw [sumN_cons]
    show (wSeq (l.map e) (e x s)).1.length ≤ _
    omega
theorem wList_c {α : Type} (e : α → WS → WS) (c : α → Nat) (h : ∀ v s, (e v s).1.length ≤ s.1.length + c v) (l : List α) (s : WS) : (wList (l.map e) s).1.length ≤ s.1.length + (6 + sumN c l) := by
  unfold wList
  dsimp only
  generalize h0 : wNum (l.map e).length (s.1, s.2 || decide (((l.map e).length : Int) > 64)) = s1
  have h1 : s1.1.length ≤ s.1.length + 6 := by rw [← h0]; exact wNum_c _ _
  have h2 := wSeq_c e c h l s1
  cases s1.2 with
  | true => show s1.1.length ≤ _; omega
  | false => show (wSeq (l.map e) s1).1.length ≤ _; omega
theorem wVotes_c (l : List VtV) (s : WS) : (wVotes l s).1.length ≤ s.1.length + cVs l := wList_c wVote cV wVote_c l s
theorem wPrep_c (p : PrV) (s : WS) : (wPrep p s).1.length ≤ s.1.length + cPr p := by
  have h1 := wNum_c p.slot s
  have h2 := wBal_c p.bal (wNum p.slot s)
  have h3 := wReq_c p.req (wBal p.bal (wNum p.slot s))
  have h4 := wVotes_c p.cert (wReq p.req (wBal p.bal (wNum p.slot s)))
  simp only [wPrep, cPr]
  omega
theorem wReport_c (r : RpV) (s : WS) : (wReport r s).1.length ≤ s.1.length + cRp r := by
  have h1 := wBal_c r.bal s
  have h2 := wNum_c r.replica (wBal r.bal s)
  have h3 := wNum_c r.low (wNum r.replica (wBal r.bal s))
  have h4 := wText_c r.digest (wNum r.low (wNum r.replica (wBal r.bal s)))
  have h5 := wVotes_c r.stable (wText r.digest (wNum r.low (wNum r.replica (wBal r.bal s))))
  have h6 := wList_c wPrep cPr wPrep_c r.preps (wVotes r.stable (wText r.digest (wNum r.low (wNum r.replica (wBal r.bal s)))))
  have h7 := wText_c r.sig (wList (r.preps.map wPrep) (wVotes r.stable (wText r.digest (wNum r.low (wNum r.replica (wBal r.bal s))))))
  simp only [wReport, cRp]
  omega
theorem sumN_const {α : Type} (n : Nat) (l : List α) : sumN (fun _ => n) l = n * l.length := by
  induction l with
  | nil => rfl
  | cons x l ih => rw [sumN_cons, ih, List.length_cons, Nat.mul_add]; omega
theorem wField_c (m : MsV) (i : Nat) (s : WS) : (wField m i s).1.length ≤ s.1.length + cM m := by
  match i with
  | 0 => have := wBal_c m.bal s; simp only [wField, cM]; omega
  | 1 => have := wNum_c m.slot s; simp only [wField, cM]; omega
  | 2 => have := wNum_c m.from_ s; simp only [wField, cM]; omega
  | 3 => have := wNum_c m.to s; simp only [wField, cM]; omega
  | 4 => have := wNum_c m.index s; simp only [wField, cM]; omega
  | 5 => have := wNum_c m.count s; simp only [wField, cM]; omega
  | 6 => have := wReq_c m.req s; simp only [wField, cM]; omega
  | 7 => have := wReq_c m.other s; simp only [wField, cM]; omega
  | 8 => have := wText_c m.data s; simp only [wField, cM]; omega
  | 9 => have := wText_c m.sig s; simp only [wField, cM]; omega
  | 10 => have := wVotes_c m.cert s; simp only [wField, cM]; omega
  | 11 => have := wVotes_c m.votes s; simp only [wField, cM]; omega
  | 12 =>
    have := wList_c wNum (fun _ => 6) wNum_c m.order s
    rw [sumN_const] at this
    simp only [wField, cM]; omega
  | 13 => have := wList_c wReq cR wReq_c m.picks s; simp only [wField, cM]; omega
  | 14 => have := wList_c wReport cRp wReport_c m.reports s; simp only [wField, cM]; omega
  | i + 15 => simp only [wField, id]; omega

/-! ### Bytes -/
theorem okB_nil : okB [] := fun _ h => by cases h
theorem okB_app {l r : List Int} (h1 : okB l) (h2 : okB r) : okB (l ++ r) := fun b hb => by
  rcases List.mem_append.1 hb with h | h
  · exact h1 b h
  · exact h2 b h
theorem okB_encF : ∀ (k : Nat) (n : Int), 0 ≤ n → okB (encF k n)
  | 0, _, _ => okB_nil
  | k + 1, n, h => by
    unfold encF
    split
    · intro b hb; simp at hb; subst hb; omega
    · intro b hb
      rcases List.mem_cons.1 hb with rfl | hb
      · omega
      · exact okB_encF k (n / 128) (by omega) b hb
theorem okB_encI {n : Int} (h : 0 ≤ n) : okB (encI n) := okB_encF 6 n h
def OkE (e : WS → WS) : Prop := ∀ s : WS, okB s.1 → okB (e s).1
theorem wNum_b (n : Int) : OkE (wNum n) := fun s h => by
  simp only [wNum]
  split
  · rename_i hn
    exact okB_app h (okB_encI (by simp [okI] at hn; omega))
  · simpa using h
theorem wText_b {p : List Int} (hp : okB p) : OkE (wText p) := fun _ h => okB_app h (okB_app (okB_encI (by omega)) hp)
theorem wBal_b (b : BalV) : OkE (wBal b) := fun s h => wNum_b _ _ (wNum_b _ s h)
theorem wReq_b {r : RqV} (hr : okR r) : OkE (wReq r) := fun s h => wText_b hr.2.1 _ (wText_b hr.1.1 _ (wNum_b _ _ (wNum_b _ s h)))
theorem wVote_b {v : VtV} (hv : okT v.sig) : OkE (wVote v) := fun s h => wText_b hv.1 _ (wNum_b _ s h)
theorem wSeq_b : ∀ (fs : List (WS → WS)), (∀ f ∈ fs, OkE f) → OkE (wSeq fs)
  | [], _, _, h => h
  | f :: r, hf, s, h => wSeq_b r (fun g hg => hf g (List.mem_cons_of_mem _ hg)) (f s) (hf f List.mem_cons_self s h)
theorem wList_b {α : Type} {e : α → WS → WS} {l : List α} (he : ∀ v ∈ l, OkE (e v)) : OkE (wList (l.map e)) := fun s h => by
  unfold wList
  dsimp only
  generalize h0 : wNum (l.map e).length (s.1, s.2 || decide (((l.map e).length : Int) > 64)) = s1
  have h1 : okB s1.1 := by rw [← h0]; exact wNum_b _ _ h
  cases s1.2 with
  | true => exact h1
  | false => exact wSeq_b _ (fun f hf => by
      obtain ⟨v, hv, rfl⟩ := List.mem_map.1 hf
      exact he v hv) s1 h1
theorem wVotes_b {l : List VtV} (hl : okVL l) : OkE (wVotes l) := wList_b fun v hv => wVote_b (hl.2 v hv)
theorem wPrep_b {p : PrV} (hp : okPr p) : OkE (wPrep p) := fun s h => wVotes_b hp.2 _ (wReq_b hp.1 _ (wBal_b _ _ (wNum_b _ s h)))
theorem wReport_b {r : RpV} (hr : okRp r) : OkE (wReport r) := fun s h =>
  wText_b hr.2.2.2.1 _ (wList_b (fun p hp => wPrep_b (hr.2.2.1.2 p hp)) _ (wVotes_b hr.2.1 _ (wText_b hr.1.1 _ (wNum_b _ _ (wNum_b _ _ (wBal_b _ s h))))))
theorem wField_b {m : MsV} (hm : OkM m) (i : Nat) : OkE (wField m i) := by
  match i with
  | 0 => exact wBal_b _
  | 1 => exact wNum_b _
  | 2 => exact wNum_b _
  | 3 => exact wNum_b _
  | 4 => exact wNum_b _
  | 5 => exact wNum_b _
  | 6 => exact wReq_b hm.req
  | 7 => exact wReq_b hm.other
  | 8 => exact wText_b hm.data.1
  | 9 => exact wText_b hm.sig.1
  | 10 => exact wVotes_b hm.cert
  | 11 => exact wVotes_b hm.votes
  | 12 => exact wList_b fun _ _ => wNum_b _
  | 13 => exact wList_b fun v hv => wReq_b (hm.picks.2 v hv)
  | 14 => exact wList_b fun v hv => wReport_b (hm.reports.2 v hv)
  | i + 15 => exact fun _ h => h

/-! ### The message without fields -/
def zR : RqV := ⟨0, 0, [], []⟩
def zM : MsV := ⟨0, ⟨0, 0⟩, 0, 0, 0, 0, 0, zR, zR, [], [], [], [], [], [], []⟩
theorem okT_nil : okT [] := ⟨okB_nil, by simp⟩
theorem okR_z : okR zR := ⟨okT_nil, okT_nil⟩
theorem okVL_nil : okVL [] := ⟨by simp, fun _ h => by cases h⟩
theorem okM_z : OkM zM := ⟨okR_z, okR_z, okT_nil, okT_nil, okVL_nil, okVL_nil, by simp [zM], ⟨by simp [zM], fun _ h => by cases h⟩, ⟨by simp [zM], fun _ h => by cases h⟩⟩
theorem cM_z : cM zM ≤ 200 := by decide

/-- Is a field empty? -/
def emptyF (m : MsV) (i : Nat) : Bool := !(wField m i ([], false)).2 && decide ((wField m i ([], false)).1 = (wField zM i ([], false)).1)

end Go.Abs

/-
slices.Clone of bytes is what it comes to.
-/
namespace Go.Abs
open Go Go.Proofs

def g83 : GSpec := fun args K => match args with
  | [.slice es] => ∃ l : List Int, es = bsA l ∧ l.length ≤ 1099511627776 ∧ K (.ret (.slice (bsA l)))
  | _ => False
theorem g83_det (args : List AV) : Det (g83 args) := by
  unfold g83
  repeat' (first | exact Det.no | exact Det.at _ | refine Det.and ?_ | refine Det.ex fun _ => ?_ | refine Det.cond ?_ ?_ | split)

set_option maxRecDepth 100000 in
set_option maxHeartbeats 4000000 in
theorem f83_ok (l : List Int) (hl : l.length ≤ 1099511627776) (T : Tab) (Q : AOut → Prop) (hQ : Q (.ret (.slice (bsA l)))) (N : Nat) :
    abody Tryz.prog T 0 N Tryz.f109 [.slice (bsA l)] [] (fun out Hs => Q (frzO Hs out)) := by
  cases l with
  | nil =>
    conv => whnf
    intro b
    cases b
    · conv => whnf
      refine ⟨fits_bs (l := []) (by simp), ?_⟩
      refine Eq.mp ?_ hQ
      kernel_rfl
    · refine Eq.mp ?_ hQ
      kernel_rfl
  | cons x xs =>
    conv => whnf
    refine ⟨fits_bs (l := x :: xs) (by omega), ?_⟩
    refine Eq.mp ?_ hQ
    kernel_rfl

set_option maxRecDepth 100000 in
theorem s83 {T : Tab} (hT : TGood Tryz.prog T) : SGood Tryz.prog 109 (pureT g83) := pureT_good g83_det fun args Q h => by
  unfold g83 at h
  split at h
  · obtain ⟨l, rfl, hl, hQ⟩ := h
    exact body_pure hT mixedT Tryz.func109 (entersOf Tryz.func109 (by kernel_rfl) rfl) 0 (f83_ok l hl T Q hQ 0)
  · exact h.elim

end Go.Abs

/-
octet.GetInt is what it comes to.
-/
namespace Go.Abs
open Go Go.Proofs

/-- A number's bytes read: the number, how many bytes. -/
def decF : Nat → Int → List Int → Option (Int × Nat)
  | _, _, [] => none
  | i, n, c :: r => if c < 128 then (if n + (c % 128) * 128 ^ i > 2147483647 ∨ (c = 0 ∧ 0 < i) then none else some (n + (c % 128) * 128 ^ i, i + 1)) else decF (i + 1) (n + (c % 128) * 128 ^ i) r
def decI (l : List Int) (a : Int) : Option (Int × Int) :=
  if a < 0 ∨ a > l.length then none else (decF 0 0 ((l.drop a.toNat).take 5)).map fun x => (x.1, a + x.2)
def dN (l : List Int) (a : Int) : Int := match decI l a with | some x => x.1 | none => 0
def dX (l : List Int) (a : Int) : Int := match decI l a with | some x => x.2 | none => 0
def dE (l : List Int) (a : Int) : Int := match decI l a with | some _ => 0 | none => 11

def g101 : GSpec := fun args K => match args with
  | [.slice es, .int .i64 a] => ∃ l : List Int, es = bsA l ∧ okB l ∧ l.length ≤ 1099511627776 ∧ K (.ret (.tuple [.int .i64 (dN l a), .int .i64 (dX l a), .int .i64 (dE l a)]))
  | _ => False

set_option maxRecDepth 100000 in
set_option maxHeartbeats 4000000 in
theorem f101_ok (l : List Int) (at_ : Int) (hb : okB l) (hl : l.length ≤ 1099511627776) (T : Tab) (Q : AOut → Prop) (hQ : Q (.ret (.tuple [.int .i64 (dN l at_), .int .i64 (dX l at_), .int .i64 (dE l at_)]))) (N : Nat) (hN : 5 < N) :
    abody Tryz.prog T 0 N Tryz.f96 [.slice (bsA l), .int .i64 at_] [] (fun out Hs => Q (frzO Hs out)) := by
  have bad : decI l at_ = none → Q (.ret (.tuple [.int .i64 0, .int .i64 0, .int .i64 11])) := fun h => by simpa [dN, dX, dE, h] using hQ
  conv => whnf
  split
  · rename_i h1; have h1 : at_ < 0 := of_decide_eq_true h1
    refine Eq.mp ?_ (bad (by simp [decI, h1]))
    kernel_rfl
  rename_i h1; have h1 : ¬ at_ < 0 := of_decide_eq_false h1
  conv => whnf
  split
  · rename_i h2; have h2 : at_ > (bsA l).length := of_decide_eq_true h2
    rw [bsA_length] at h2
    refine Eq.mp ?_ (bad (by simp [decI, h2]))
    kernel_rfl
  rename_i h2; have h2 : ¬ at_ > (bsA l).length := of_decide_eq_false h2
  rw [bsA_length] at h2
  have hw : IntKind.i64.wrap (at_ + 5) = at_ + 5 := by rw [IntKind.wrap_i64]; omega
  conv => whnf
  rw [hw]
  refine ⟨fun el hel => bsA_el hel, ⟨by omega, by rw [bsA_length]; split <;> omega, by rw [bsA_length]; split <;> omega⟩, ?_⟩
  conv => whnf
  obtain ⟨r, hr⟩ : ∃ r, r = (l.drop at_.toNat).take 5 := ⟨_, rfl⟩
  have hcut : ((bsA l).drop at_.toNat).take ((if at_ + 5 < ((bsA l).length : Int) then at_ + 5 else ((bsA l).length : Int)).toNat - at_.toNat) = bsA r := by
    rw [hr, bsA, ← List.map_drop, ← List.map_take]
    congr 1
    rw [List.length_map]
    split
    · congr 1 <;> omega
    · rw [List.take_of_length_le (by simp <;> omega), List.take_of_length_le (by simp <;> omega)]
  have hdec : decI l at_ = (decF 0 0 r).map fun x => (x.1, at_ + x.2) := by
    rw [hr, decI, if_neg (by omega)]
  have hrl : r.length ≤ 5 := by rw [hr]; simp; omega
  have hrb : okB r := fun b hbb => hb b (by rw [hr] at hbb; exact List.mem_of_mem_drop (List.mem_of_mem_take hbb))
  refine aloop_at ?_ ?_ (aloop_inv (σ := Nat × Int) (fun s => ((sp 0 58 [(1, .int .i64 at_), (7, .int .i64 s.2), (25, .slice (bsA r)), (26, .int .i64 (bsA r).length), (27, .int .i64 s.1)]), []))
    (fun s => s.1 ≤ r.length ∧ 0 ≤ s.2 ∧ s.2 < 128 ^ s.1 ∧ decF 0 0 r = decF s.1 s.2 (r.drop s.1)) (fun s => r.length - s.1) ?_ N (0, 0) ⟨Nat.zero_le _, by simp, by simp, rfl⟩ (by dsimp only; omega))
  · rw [← hcut]; kernel_rfl
  · kernel_rfl
  rintro ⟨i, n⟩ ⟨i1, i2, i3, i4⟩ R hR
  dsimp only at i1 i2 i3 i4
  conv => whnf
  split
  rotate_left
  · rename_i h3; have h3 : ¬ (i : Int) < (bsA r).length := of_decide_eq_false h3
    rw [bsA_length] at h3
    refine Eq.mp ?_ (bad (by rw [hdec, i4, List.drop_of_length_le (by omega)]; rfl))
    kernel_rfl
  rename_i h3; have h3 : (i : Int) < (bsA r).length := of_decide_eq_true h3
  rw [bsA_length] at h3
  obtain ⟨c, rest, hc⟩ : ∃ c rest, r.drop i = c :: rest := ⟨r[i], r.drop (i + 1), List.drop_eq_getElem_cons (by omega)⟩
  have hget : r[i]? = some c := by have := congrArg (·[0]?) hc; simpa [List.getElem?_drop] using this
  have hcb := hrb c (List.mem_of_getElem? hget)
  conv => whnf
  refine ⟨by omega, by rw [bsA_length]; omega, [.int .u8 c], by simp [bsA, hget], by kernel_rfl, ?_⟩
  conv => whnf
  split
  rotate_left
  · rename_i h4; have h4 : ¬ 0 ≤ IntKind.i64.wrap (7 * (i : Int)) := of_decide_eq_false h4
    rw [IntWalk.i64_in _ (by omega)] at h4; omega
  conv => whnf
  have hor : bits .or .i64 (i, n).snd (IntKind.i64.wrap (IntKind.i64.wrap (bits .and .u8 c 127) * 2 ^ (min (IntKind.i64.wrap (7 * ((i, n).fst : Int))).toNat IntKind.i64.bits))) = n + (c % 128) * 128 ^ i := orStep i (by omega) n c i2 i3 hcb.1 hcb.2
  have hi1 : IntKind.i64.wrap ((i : Int) + 1) = ((i + 1 : Nat) : Int) := by rw [IntKind.wrap_i64]; omega
  have hn2 : 0 ≤ (c % 128) * 128 ^ i := Int.mul_nonneg (by omega) (Int.pow_nonneg (by decide))
  have hdc : decF i n (r.drop i) = if c < 128 then (if n + (c % 128) * 128 ^ i > 2147483647 ∨ (c = 0 ∧ 0 < i) then none else some (n + (c % 128) * 128 ^ i, i + 1)) else decF (i + 1) (n + (c % 128) * 128 ^ i) rest := by rw [hc]; rfl
  split
  rotate_left
  · rename_i h5; have h5 : ¬ c < 128 := of_decide_eq_false h5
    rw [if_neg h5] at hdc
    conv => whnf
    refine R_at ?_ ?_ (hR (i + 1, n + (c % 128) * 128 ^ i) ⟨by dsimp only; omega, by dsimp only; omega, ?_, ?_⟩ (by dsimp only; omega))
    · rw [← hor, ← hi1]; kernel_rfl
    · kernel_rfl
    · dsimp only
      have : (c % 128) * 128 ^ i ≤ 127 * 128 ^ i := Int.mul_le_mul_of_nonneg_right (by omega) (Int.pow_nonneg (by decide))
      rw [Int.pow_succ]
      omega
    · dsimp only
      rw [i4, hdc]
      congr 1
      have := congrArg (List.drop 1) hc
      simpa [List.drop_drop, Nat.add_comm] using this.symm
  rename_i h5; have h5 : c < 128 := of_decide_eq_true h5
  rw [if_pos h5] at hdc
  conv => whnf
  rw [hor]
  split
  · rename_i h6; have h6 : n + (c % 128) * 128 ^ i > 2147483647 := of_decide_eq_true h6
    refine Eq.mp ?_ (bad (by rw [hdec, i4, hdc, if_pos (.inl h6)]; rfl))
    kernel_rfl
  rename_i h6; have h6 : ¬ n + (c % 128) * 128 ^ i > 2147483647 := of_decide_eq_false h6
  conv => whnf
  split
  · rename_i h7; have h7 : c = 0 := by simpa using h7
    conv => whnf
    split
    · rename_i h8; have h8 : (i : Int) > 0 := of_decide_eq_true h8
      refine Eq.mp ?_ (bad (by rw [hdec, i4, hdc, if_pos (.inr ⟨h7, by omega⟩)]; rfl))
      kernel_rfl
    · rename_i h8; have h8 : ¬ (i : Int) > 0 := of_decide_eq_false h8
      have hd : decI l at_ = some (n + (c % 128) * 128 ^ i, at_ + ((i + 1 : Nat) : Int)) := by rw [hdec, i4, hdc, if_neg (by omega)]; rfl
      have hw2 : IntKind.i64.wrap (IntKind.i64.wrap (at_ + ((i, n).fst : Int)) + 1) = at_ + ((i + 1 : Nat) : Int) := by rw [IntWalk.i64_in (at_ + ((i, n).fst : Int)) (by dsimp only; omega), IntWalk.i64_in _ (by dsimp only; omega)]; dsimp only; omega
      conv => whnf
      have hQ' : Q (.ret (.tuple [.int .i64 (n + (c % 128) * 128 ^ i), .int .i64 (at_ + ((i + 1 : Nat) : Int)), .int .i64 0])) := by simpa [dN, dX, dE, hd] using hQ
      rw [← hw2] at hQ'
      refine Eq.mp ?_ hQ'
      kernel_rfl
  · rename_i h7; have h7 : ¬ c = 0 := by simpa using h7
    have hd : decI l at_ = some (n + (c % 128) * 128 ^ i, at_ + ((i + 1 : Nat) : Int)) := by rw [hdec, i4, hdc, if_neg (by omega)]; rfl
    have hw2 : IntKind.i64.wrap (IntKind.i64.wrap (at_ + ((i, n).fst : Int)) + 1) = at_ + ((i + 1 : Nat) : Int) := by rw [IntWalk.i64_in (at_ + ((i, n).fst : Int)) (by dsimp only; omega), IntWalk.i64_in _ (by dsimp only; omega)]; dsimp only; omega
    conv => whnf
    have hQ' : Q (.ret (.tuple [.int .i64 (n + (c % 128) * 128 ^ i), .int .i64 (at_ + ((i + 1 : Nat) : Int)), .int .i64 0])) := by simpa [dN, dX, dE, hd] using hQ
    rw [← hw2] at hQ'
    refine Eq.mp ?_ hQ'
    kernel_rfl

theorem g101_det (args : List AV) : Det (g101 args) := by
  unfold g101
  repeat' (first | exact Det.no | exact Det.at _ | refine Det.and ?_ | refine Det.ex fun _ => ?_ | refine Det.cond ?_ ?_ | split)
theorem g101_flat (args : List AV) (o : AOut) (h : g101 args (· = o)) : flatO o = true := by
  unfold g101 at h
  split at h
  · obtain ⟨_, _, _, _, rfl⟩ := h; rfl
  · exact h.elim

set_option maxRecDepth 100000 in
theorem s101 {T : Tab} (hT : TGood Tryz.prog T) : SGood Tryz.prog 96 (flatT g101) := flatT_good g101_det g101_flat fun args Q h => by
  unfold g101 at h
  split at h
  · obtain ⟨l, rfl, hb, hl, hQ⟩ := h
    exact body_pure hT mixedT Tryz.func96 (entersOf Tryz.func96 (by kernel_rfl) rfl) 6 (f101_ok l _ hb hl T Q hQ 6 (by decide))
  · exact h.elim

end Go.Abs

