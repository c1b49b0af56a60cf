/-
catenaryref05.CopyVotes is what it comes to.
-/
import Derived.Test.YtmainkiflkagjaaGreatDoorAbw9
import Derived.Test.YtmainkiflkagjaaGreatDoorAbw10
import Derived.Test.YtmainkiflkagjaaGreatDoorAbw7
import Derived.Test.YtmainkiflkagjaaGreatDoorAbw11
import Derived.Test.YtmainkiflkagjaaGreatDoorAbw6
import Derived.Test.YtmainkiflkagjaaGreatDoorAbw17
import Derived.Test.YtmainkiflkagjaaGreatDoorAbw18
namespace Go.Abs
open Go Go.Proofs

theorem fits_lt {el : List AV} {sz bytes n : Nat} (h : el.length = sz) (hb : Nat.ble bytes 128 = true) (hn : n < 1099511627776) : FitsA [el] sz bytes n := by
  have hb := Nat.le_of_ble_eq_true hb
  refine fits_one h ?_ (by omega)
  have : (n + 1) * bytes ≤ 1099511627776 * 128 := Nat.mul_le_mul (by omega) hb
  omega
def rowV0 (l : List (List AV)) : AV := match l with | [] => .zslice | _ => .row 0
def rowH0 (e sz : Nat) (l : List (List AV)) : Heap := match l with | [] => [] | _ => [.row true e sz l]

def g43 : GSpec := fun args K => match args with
  | [.slice es] => ∃ l : List VtV, es = vtCL l ∧ okVL l ∧ K (.ret (.slice (vtCL l)))
  | _ => False
theorem g43_det (args : List AV) : Det (g43 args) := by
  unfold g43
  repeat' (first | exact Det.no | exact Det.at _ | refine Det.and ?_ | refine Det.ex fun _ => ?_ | refine Det.cond ?_ ?_ | split)

set_option maxRecDepth 100000 in
set_option maxHeartbeats 4000000 in
theorem f43_ok (l : List VtV) (hl : okVL l) (T : Tab) (Q : AOut → Prop) (hQ : Q (.ret (.slice (vtCL l)))) (N : Nat) (hN : l.length < N) :
    abody Tryz.prog T 0 N Tryz.f29 [.slice (vtCL l)] [] (fun out Hs => Q (frzO Hs out)) := by
  have hlen : (vtCL l).length = l.length := by simp [vtCL]
  have hl1 := hl.1
  conv => whnf
  refine aloop_at ?_ ?_ (aloop_inv (σ := Nat × List VtV) (fun s => ((sp 0 25 [(3, rowV0 (vtCL s.2)), (7, .slice (vtCL l)), (8, .int .i64 ((vtCL l).length : Nat)), (9, .int .i64 (s.1 : Nat))]), rowH0 104 2 (vtCL s.2)))
    (fun s => s.1 ≤ l.length ∧ s.2 = l.take s.1) (fun s => l.length - s.1) ?_ N (0, []) ⟨Nat.zero_le _, rfl⟩ (by dsimp only; omega))
  · kernel_rfl
  · kernel_rfl
  rintro ⟨i, acc⟩ ⟨i1, i2⟩ R hR
  dsimp only at i1 i2
  have hcl : (vtCL acc).length = i := by rw [i2]; simp [vtCL]; omega
  have hi1 : i < l.length → IntKind.i64.wrap ((i : Int) + 1) = ((i + 1 : Nat) : Int) := fun h => by rw [IntWalk.i64_in _ (by omega)]; omega
  rcases acc with _ | ⟨x, xs⟩
  all_goals
    conv => whnf
    split
    rotate_left
    · rename_i h3; have h3 : ¬ (i : Int) < (vtCL l).length := of_decide_eq_false h3
      rw [hlen] at h3
      rw [List.take_of_length_le (by omega)] at i2
      rw [← i2] at hQ
      conv => whnf
      refine Eq.mp ?_ hQ
      kernel_rfl
    rename_i h3; have h3 : (i : Int) < (vtCL l).length := of_decide_eq_true h3
    rw [hlen] at h3
    have h4 : i < l.length := by omega
    obtain ⟨v, hv⟩ : ∃ v, l[i]? = some v := ⟨l[i]'h4, List.getElem?_eq_getElem h4⟩
    have hva : (vtCL l)[i]? = some (vtC v) := by simp [vtCL, hv]
    have hok := hl.2 v (List.mem_of_getElem? hv)
    conv => whnf
    refine ⟨by omega, by rw [hlen]; omega, _, hva, by kernel_rfl, ?_⟩
    conv => whnf
    refine ⟨[6, 8, 9], ?_⟩
    conv => whnf
    refine ⟨rfl, ?_⟩
    conv => whnf
    refine ⟨fits_bs (by have := hok.2; omega), ?_⟩
    conv => whnf
    repeat (refine ⟨by (conv => whnf); exact ⟨rfl, rfl⟩, ?_⟩; conv => whnf)
    refine ⟨fits_at (ys' := [vtC v]) (by kernel_rfl) (fits_lt (by kernel_rfl) (by kernel_rfl) (Nat.lt_of_le_of_lt (Nat.le_of_eq hcl) (by omega))), ?_⟩
    conv => whnf
    repeat (refine ⟨by (conv => whnf); exact ⟨rfl, rfl⟩, ?_⟩; conv => whnf)
    first | refine R_at ?_ ?_ (hR (i + 1, (x :: xs) ++ [v]) ⟨h4, ?_⟩ (by dsimp only; omega)) | refine R_at ?_ ?_ (hR (i + 1, [v]) ⟨h4, ?_⟩ (by dsimp only; omega))
    · rw [← hi1 h4]; kernel_rfl
    · first | (show _ = rowH0 104 2 (vtCL ((x :: xs) ++ [v])); rw [show vtCL ((x :: xs) ++ [v]) = vtCL (x :: xs) ++ [vtC v] by simp [vtCL]]; kernel_rfl) | kernel_rfl
    · dsimp only
      rw [List.take_add_one, hv, ← i2]
      rfl

set_option maxRecDepth 100000 in
theorem s43 {T : Tab} (hT : TGood Tryz.prog T) : SGood Tryz.prog 29 (pureT g43) := pureT_good g43_det fun args Q h => by
  unfold g43 at h
  split at h
  · obtain ⟨l, rfl, hl, hQ⟩ := h
    exact body_pure hT mixedT Tryz.func29 (entersOf Tryz.func29 (by kernel_rfl) rfl) _ (f43_ok l hl T Q hQ _ (Nat.lt_succ_self _))
  · exact h.elim
end Go.Abs

/-
catenaryref05.SameReport of two like reports is true.
-/
namespace Go.Abs
open Go Go.Proofs

set_option maxRecDepth 100000 in
theorem eq2_25 : Eq2 Tryz.prog 23 := ⟨by kernel_rfl, by kernel_rfl, _, _, .i64, .i64, Tryz.underlying23, by decide, by decide, rfl, rfl, by kernel_rfl, by kernel_rfl⟩
theorem rqEq_self (r : RqV) : rqEq r r = true := by simp [rqEq]
theorem vtsEq_self : ∀ l : List VtV, vtsEq l l = true
  | [] => rfl
  | x :: l => by simp [vtsEq, vtEq, vtsEq_self l]

def g57 : GSpec := fun args K => match args with
  | [.agg cs, .agg ds] => ∃ r : RpV, cs = rpC r ∧ ds = rpC r ∧ okRp r ∧ K (.ret (.bool true))
  | _ => False
theorem g57_det (args : List AV) : Det (g57 args) := by
  unfold g57
  repeat' (first | exact Det.no | exact Det.at _ | refine Det.and ?_ | refine Det.ex fun _ => ?_ | refine Det.cond ?_ ?_ | split)
theorem g57_flat (args : List AV) (o : AOut) (h : g57 args (· = o)) : flatO o = true := by
  unfold g57 at h
  split at h
  · obtain ⟨_, _, _, _, rfl⟩ := h; rfl
  · exact h.elim
def T57 (T : Tab) : Tab := ext (ext (ext T 25 (flatT g18)) 21 (flatT g25)) 44 (flatT g56)

theorem bal_self (b : BalV) : (!((b.view == b.view) && (b.turn == b.turn))) = false := by simp
theorem ne_self (n : Int) : (n != n) = false := by simp
theorem dec_self {α : Type} [DecidableEq α] (a : α) : (!decide (a = a)) = false := by simp

set_option maxRecDepth 100000 in
set_option maxHeartbeats 8000000 in
theorem f57_ok (r : RpV) (hr : okRp r) (T : Tab) (Q : AOut → Prop) (hQ : Q (.ret (.bool true))) (N : Nat) (hN : r.preps.length < N) :
    abody Tryz.prog (T57 T) 0 N Tryz.f12 [.agg (rpC r), .agg (rpC r)] [] (fun out Hs => Q (frzO Hs out)) := by
  obtain ⟨hd, hst, hpr, hsg⟩ := hr
  have lp : (prCL r.preps).length = r.preps.length := by simp [prCL]
  conv => whnf
  refine ⟨eq2_25, rfl, rfl, ?_⟩
  conv => whnf
  rw [bal_self]
  conv => whnf
  rw [ne_self]
  conv => whnf
  rw [ne_self]
  conv => whnf
  refine ⟨r.digest, r.digest, rfl, rfl, hd.1, hd.1, ?_⟩
  conv => whnf
  rw [dec_self]
  conv => whnf
  refine ⟨r.stable, r.stable, rfl, rfl, hst, hst, ?_⟩
  rw [vtsEq_self]
  conv => whnf
  rw [ne_self]
  conv => whnf
  refine ⟨r.sig, r.sig, rfl, rfl, hsg.1, hsg.1, ?_⟩
  conv => whnf
  rw [dec_self]
  conv => whnf
  refine aloop_at ?_ ?_ (aloop_inv (σ := Nat) (fun i => ((sp 0 102 [(3, .ptr 0 0), (61, .slice (prCL r.preps)), (62, .int .i64 ((prCL r.preps).length : Nat)), (63, .int .i64 (i : Nat))]), [.var (rpC r)]))
    (fun i => i ≤ r.preps.length) (fun i => r.preps.length - i) ?_ N 0 (Nat.zero_le _) (by omega))
  · kernel_rfl
  · kernel_rfl
  rintro i i1 R hR
  conv => whnf
  split
  rotate_left
  · refine Eq.mp ?_ hQ
    kernel_rfl
  rename_i h2; have h2 : (i : Int) < (prCL r.preps).length := of_decide_eq_true h2
  rw [lp] at h2
  obtain ⟨x, hx⟩ : ∃ x, r.preps[i]? = some x := ⟨r.preps[i]'(by omega), List.getElem?_eq_getElem (by omega)⟩
  have hxa : (prCL r.preps)[i]? = some (prC x) := by simp [prCL, hx]
  obtain ⟨ok1, ok2⟩ := hpr.2 x (List.mem_of_getElem? hx)
  have hi1 : IntKind.i64.wrap ((i : Int) + 1) = ((i + 1 : Nat) : Int) := by rw [IntWalk.i64_in _ (by have := hpr.1; omega)]; omega
  conv => whnf
  refine ⟨by omega, by rw [lp]; omega, _, hxa, by kernel_rfl, ?_⟩
  conv => whnf
  refine ⟨by omega, by rw [lp]; omega, _, hxa, by kernel_rfl, ?_⟩
  conv => whnf
  rw [ne_self]
  conv => whnf
  refine ⟨eq2_25, rfl, rfl, ?_⟩
  rw [bal_self]
  conv => whnf
  refine ⟨x.req, x.req, rfl, rfl, ok1, ok1, ?_⟩
  rw [rqEq_self]
  conv => whnf
  refine ⟨x.cert, x.cert, rfl, rfl, ok2, ok2, ?_⟩
  rw [vtsEq_self]
  conv => whnf
  refine R_at ?_ ?_ (hR (i + 1) (by omega) (by omega))
  · rw [← hi1]; kernel_rfl
  · kernel_rfl

set_option maxRecDepth 100000 in
theorem s57 {T : Tab} (hT : TGood Tryz.prog T) : SGood Tryz.prog 12 (flatT g57) := flatT_good g57_det g57_flat fun args Q h => by
  unfold g57 at h
  split at h
  · obtain ⟨r, rfl, rfl, hr, hQ⟩ := h
    have t1 := ext_good hT (s18 hT)
    have t2 := ext_good t1 (s25 t1)
    exact body_pure (ext_good t2 (s56 t2)) mixedT Tryz.func12 (entersOf Tryz.func12 (by kernel_rfl) rfl) _ (f57_ok r hr T Q hQ _ (Nat.lt_succ_self _))
  · exact h.elim
end Go.Abs

/-
catenaryref05.CopyReport is what it comes to.
-/
namespace Go.Abs
open Go Go.Proofs

def rowV4 (l : List (List AV)) : AV := match l with | [] => .zslice | _ => .row 4
def g44 : GSpec := fun args K => match args with
  | [.agg cs] => ∃ r : RpV, cs = rpC r ∧ okRp r ∧ K (.ret (.agg (rpC r)))
  | _ => False
theorem g44_det (args : List AV) : Det (g44 args) := by
  unfold g44
  repeat' (first | exact Det.no | exact Det.at _ | refine Det.and ?_ | refine Det.ex fun _ => ?_ | refine Det.cond ?_ ?_ | split)
def zRp : List AV := [.int .i64 0, .int .i64 0, .int .i64 0, .int .i64 0, .zslice, .zslice, .zslice, .zslice]
def T44 (T : Tab) : Tab := ext (ext T 30 (pureT g23)) 29 (pureT g43)

set_option maxRecDepth 100000 in
set_option maxHeartbeats 8000000 in
theorem f44_ok (r : RpV) (hr : okRp r) (T : Tab) (Q : AOut → Prop) (hQ : Q (.ret (.agg (rpC r)))) (N : Nat) (hN : r.preps.length < N) :
    abody Tryz.prog (T44 T) 0 N Tryz.f9 [.agg (rpC r)] [] (fun out Hs => Q (frzO Hs out)) := by
  obtain ⟨hd, hst, hpr, hsg⟩ := hr
  have lp : (prCL r.preps).length = r.preps.length := by simp [prCL]
  have hp1 := hpr.1
  conv => whnf
  refine ⟨fits_bs (by have := hd.2; omega), ?_⟩
  conv => whnf
  refine ⟨fits_bs (by have := hsg.2; omega), ?_⟩
  conv => whnf
  refine ⟨r.stable, rfl, hst, ?_⟩
  conv => whnf
  refine aloop_at ?_ ?_ (aloop_inv (σ := Nat × List PrV) (fun s => ((sp 0 46 [(1, .ptr 0 0), (2, .ptr 3 0), (3, rowV4 (prCL s.2)), (22, .slice (prCL r.preps)), (23, .int .i64 ((prCL r.preps).length : Nat)), (24, .int .i64 (s.1 : Nat))]),
      [.var [.int .i64 r.bal.view, .int .i64 r.bal.turn, .int .i64 r.replica, .int .i64 r.low, .row 1, .slice (vtCL r.stable), .slice (prCL r.preps), .row 2], .row true 5 1 (bsA r.digest), .row true 5 1 (bsA r.sig), .var zRp] ++ rowH0 62 8 (prCL s.2)))
    (fun s => s.1 ≤ r.preps.length ∧ s.2 = r.preps.take s.1) (fun s => r.preps.length - s.1) ?_ N (0, []) ⟨Nat.zero_le _, rfl⟩ (by dsimp only; omega))
  · kernel_rfl
  · kernel_rfl
  rintro ⟨i, acc⟩ ⟨i1, i2⟩ R hR
  dsimp only at i1 i2
  have hcl : (prCL acc).length = i := by rw [i2]; simp [prCL]; omega
  have hi1 : i < r.preps.length → IntKind.i64.wrap ((i : Int) + 1) = ((i + 1 : Nat) : Int) := fun h => by rw [IntWalk.i64_in _ (by omega)]; omega
  rcases acc with _ | ⟨x, xs⟩
  all_goals
    conv => whnf
    split
    rotate_left
    · rename_i h3; have h3 : ¬ (i : Int) < (prCL r.preps).length := of_decide_eq_false h3
      rw [lp] at h3
      rw [List.take_of_length_le (by omega)] at i2
      have hQ' : Q (.ret (.agg [.int .i64 r.bal.view, .int .i64 r.bal.turn, .int .i64 r.replica, .int .i64 r.low, .slice (bsA r.digest), .slice (vtCL r.stable), .slice (prCL r.preps), .slice (bsA r.sig)])) := hQ
      rw [← i2] at hQ'
      conv => whnf
      refine Eq.mp ?_ hQ'
      kernel_rfl
    rename_i h3; have h3 : (i : Int) < (prCL r.preps).length := of_decide_eq_true h3
    rw [lp] at h3
    have h4 : i < r.preps.length := by omega
    obtain ⟨v, hv⟩ : ∃ v, r.preps[i]? = some v := ⟨r.preps[i]'h4, List.getElem?_eq_getElem h4⟩
    have hva : (prCL r.preps)[i]? = some (prC v) := by simp [prCL, hv]
    obtain ⟨ok1, ok2⟩ := hpr.2 v (List.mem_of_getElem? hv)
    conv => whnf
    refine ⟨by omega, by rw [lp]; omega, _, hva, by kernel_rfl, ?_⟩
    conv => whnf
    refine ⟨[12, 13], ?_⟩
    conv => whnf
    refine ⟨v.req, rfl, ok1, ?_⟩
    conv => whnf
    refine ⟨rfl, ?_⟩
    conv => whnf
    refine ⟨v.cert, rfl, ok2, ?_⟩
    conv => whnf
    refine ⟨rfl, ?_⟩
    conv => whnf
    repeat (refine ⟨by (conv => whnf); exact ⟨rfl, rfl⟩, ?_⟩; conv => whnf)
    refine ⟨fits_at (ys' := [prC v]) (by kernel_rfl) (fits_lt (by kernel_rfl) (by kernel_rfl) (Nat.lt_of_le_of_lt (Nat.le_of_eq hcl) (by omega))), ?_⟩
    conv => whnf
    repeat (refine ⟨by (conv => whnf); exact ⟨rfl, rfl⟩, ?_⟩; conv => whnf)
    first | refine R_at ?_ ?_ (hR (i + 1, (x :: xs) ++ [v]) ⟨h4, ?_⟩ (by dsimp only; omega)) | refine R_at ?_ ?_ (hR (i + 1, [v]) ⟨h4, ?_⟩ (by dsimp only; omega))
    · rw [← hi1 h4]; kernel_rfl
    · first | (show _ = _ ++ rowH0 62 8 (prCL ((x :: xs) ++ [v])); rw [show prCL ((x :: xs) ++ [v]) = prCL (x :: xs) ++ [prC v] by simp [prCL]]; kernel_rfl) | kernel_rfl
    · dsimp only
      rw [List.take_add_one, hv, ← i2]
      rfl

set_option maxRecDepth 100000 in
theorem s44 {T : Tab} (hT : TGood Tryz.prog T) : SGood Tryz.prog 9 (pureT g44) := pureT_good g44_det fun args Q h => by
  unfold g44 at h
  split at h
  · obtain ⟨r, rfl, hr, hQ⟩ := h
    have t1 := ext_good hT (s23 hT)
    exact body_pure (ext_good t1 (s43 t1)) mixedT Tryz.func9 (entersOf Tryz.func9 (by kernel_rfl) rfl) _ (f44_ok r hr T Q hQ _ (Nat.lt_succ_self _))
  · exact h.elim
end Go.Abs

/-
catenaryref05.Copy is what it comes to.
-/
namespace Go.Abs
open Go Go.Proofs

def g15 : GSpec := fun args K => match args with
  | [.agg cs] => ∃ m : MsV, cs = msC m ∧ OkM m ∧ K (.ret (.agg (msC m)))
  | _ => False
theorem g15_det (args : List AV) : Det (g15 args) := by
  unfold g15
  repeat' (first | exact Det.no | exact Det.at _ | refine Det.and ?_ | refine Det.ex fun _ => ?_ | refine Det.cond ?_ ?_ | split)
theorem fits_in {l : List Int} (h : l.length ≤ 1099511627776) : FitsA (inCL l) 1 8 0 :=
  ⟨fun x hx => by obtain ⟨_, _, rfl⟩ := List.mem_map.1 hx; rfl, by simp [inCL]; omega, by simp [inCL]; omega⟩
def T15 (T : Tab) : Tab := ext (ext (ext T 30 (pureT g23)) 29 (pureT g43)) 9 (pureT g44)
/-- The copy's cells: its own rows. -/
def c15 (m : MsV) (p : AV) : List AV := [.int .i64 m.kind, .int .i64 m.bal.view, .int .i64 m.bal.turn, .int .i64 m.slot, .int .i64 m.from_, .int .i64 m.to, .int .i64 m.index, .int .i64 m.count,
  .int .i64 m.req.client, .int .i64 m.req.stamp, .slice (bsA m.req.op), .slice (bsA m.req.sig), .int .i64 m.other.client, .int .i64 m.other.stamp, .slice (bsA m.other.op), .slice (bsA m.other.sig),
  .row 1, .row 2, .slice (vtCL m.cert), .slice (vtCL m.votes), .row 3, p, .slice (rpCL m.reports)]
def h15 (m : MsV) : Heap := [.row true 5 1 (bsA m.data), .row true 5 1 (bsA m.sig), .row true 3 1 (inCL m.order)]
def m15 (m : MsV) (p r : List (List AV)) : List AV := [.int .i64 m.kind, .int .i64 m.bal.view, .int .i64 m.bal.turn, .int .i64 m.slot, .int .i64 m.from_, .int .i64 m.to, .int .i64 m.index, .int .i64 m.count,
  .int .i64 m.req.client, .int .i64 m.req.stamp, .slice (bsA m.req.op), .slice (bsA m.req.sig), .int .i64 m.other.client, .int .i64 m.other.stamp, .slice (bsA m.other.op), .slice (bsA m.other.sig),
  .slice (bsA m.data), .slice (bsA m.sig), .slice (vtCL m.cert), .slice (vtCL m.votes), .slice (inCL m.order), .slice p, .slice r]
def rowV5 (l : List (List AV)) : AV := match l with | [] => .zslice | _ => .row 5
def rowV6 (l : List (List AV)) : AV := match l with | [] => .zslice | _ => .row 6

set_option maxRecDepth 100000 in
set_option maxHeartbeats 16000000 in
theorem f15_ok (m : MsV) (hm : OkM m) (T : Tab) (Q : AOut → Prop) (hQ : Q (.ret (.agg (msC m)))) (N : Nat) (hN : m.picks.length < N) (hN2 : m.reports.length < N) :
    abody Tryz.prog (T15 T) 0 N Tryz.f27 [.agg (msC m)] [] (fun out Hs => Q (frzO Hs out)) := by
  obtain ⟨o1, o2, o3, o4, o5, o6, o7, o8, o9⟩ := hm
  have hp1 := o8.1
  have hr1 := o9.1
  have l_picks : (rqCL m.picks).length = m.picks.length := by simp [rqCL]
  have l_reports : (rpCL m.reports).length = m.reports.length := by simp [rpCL]
  conv => whnf
  refine ⟨m.req, rfl, o1, ?_⟩
  conv => whnf
  refine ⟨m.other, rfl, o2, ?_⟩
  conv => whnf
  refine ⟨fits_bs (by have := o3.2; omega), ?_⟩
  conv => whnf
  refine ⟨fits_bs (by have := o4.2; omega), ?_⟩
  conv => whnf
  refine ⟨m.cert, rfl, o5, ?_⟩
  conv => whnf
  refine ⟨m.votes, rfl, o6, ?_⟩
  conv => whnf
  refine ⟨fits_in o7, ?_⟩
  conv => whnf
  refine aloop_at ?_ ?_ (aloop_inv (σ := Nat × List RqV) (fun s => (sp 0 73 [(1, .ptr 0 0), (2, .ptr 4 0), (3, rowV5 (rqCL s.2)), (42, .slice (rqCL m.picks)), (43, .int .i64 ((rqCL m.picks).length : Nat)), (44, .int .i64 (s.1 : Nat))], [.var (c15 m (.slice (rqCL m.picks)))] ++ h15 m ++ [.var zC] ++ rowH0 39 4 (rqCL s.2)))
    (fun s => s.1 ≤ m.picks.length ∧ s.2 = m.picks.take s.1) (fun s => m.picks.length - s.1) ?_ N (0, []) ⟨Nat.zero_le _, rfl⟩ (by dsimp only; omega))
  · kernel_rfl
  · kernel_rfl
  rintro ⟨i, acc⟩ ⟨i1, i2⟩ R hR
  dsimp only at i1 i2
  have hcl : (rqCL acc).length = i := by rw [i2]; simp [rqCL]; omega
  have hi1 : i < m.picks.length → IntKind.i64.wrap ((i : Int) + 1) = ((i + 1 : Nat) : Int) := fun h => by rw [IntWalk.i64_in _ (by omega)]; omega
  rcases acc with _ | ⟨x, xs⟩
  · conv => whnf
    split
    · rename_i h3; have h3 : (i : Int) < (rqCL m.picks).length := of_decide_eq_true h3
      rw [l_picks] at h3
      have h4 : i < m.picks.length := by omega
      obtain ⟨v, hv⟩ : ∃ v, m.picks[i]? = some v := ⟨m.picks[i]'h4, List.getElem?_eq_getElem h4⟩
      have hva : (rqCL m.picks)[i]? = some (rqC v) := by simp [rqCL, hv]
      have hok := o8.2 v (List.mem_of_getElem? hv)
      conv => whnf
      refine ⟨by omega, by rw [l_picks]; omega, _, hva, by kernel_rfl, ?_⟩
      conv => whnf
      refine ⟨v, rfl, hok, ?_⟩
      conv => whnf
      refine ⟨fits_at (ys' := [rqC v]) (by kernel_rfl) (fits_lt (by kernel_rfl) (by kernel_rfl) (Nat.lt_of_le_of_lt (Nat.le_of_eq hcl) (by omega))), ?_⟩
      conv => whnf
      refine R_at ?_ ?_ (hR (i + 1, [v]) ⟨h4, ?_⟩ (by dsimp only; omega))
      · rw [← hi1 h4]; kernel_rfl
      · kernel_rfl
      · dsimp only
        rw [List.take_add_one, hv, ← i2]
        rfl
    · rename_i h3; have h3 : ¬ (i : Int) < (rqCL m.picks).length := of_decide_eq_false h3
      rw [l_picks] at h3
      rw [List.take_of_length_le (by omega)] at i2
      conv => whnf
      clear hR R
      have hpk := i2
      clear i1 i2 hcl hi1
      refine aloop_at ?_ ?_ (aloop_inv (σ := Nat × List RpV) (fun s => (sp 0 73 [(1, .ptr 0 0), (2, .ptr 4 0), (6, rowV5 (rpCL s.2)), (58, .slice (rpCL m.reports)), (59, .int .i64 ((rpCL m.reports).length : Nat)), (60, .int .i64 (s.1 : Nat))], [.var (c15 m .zslice)] ++ h15 m ++ rowH0 39 4 (rqCL []) ++ [.var zC] ++ rowH0 28 8 (rpCL s.2)))
        (fun s => s.1 ≤ m.reports.length ∧ s.2 = m.reports.take s.1) (fun s => m.reports.length - s.1) ?_ N (0, []) ⟨Nat.zero_le _, rfl⟩ (by dsimp only; omega))
      · kernel_rfl
      · kernel_rfl
      rintro ⟨i, acc⟩ ⟨i1, i2⟩ R hR
      dsimp only at i1 i2
      have hcl : (rpCL acc).length = i := by rw [i2]; simp [rpCL]; omega
      have hi1 : i < m.reports.length → IntKind.i64.wrap ((i : Int) + 1) = ((i + 1 : Nat) : Int) := fun h => by rw [IntWalk.i64_in _ (by omega)]; omega
      rcases acc with _ | ⟨y, ys⟩
      · conv => whnf
        split
        · rename_i h3; have h3 : (i : Int) < (rpCL m.reports).length := of_decide_eq_true h3
          rw [l_reports] at h3
          have h4 : i < m.reports.length := by omega
          obtain ⟨v, hv⟩ : ∃ v, m.reports[i]? = some v := ⟨m.reports[i]'h4, List.getElem?_eq_getElem h4⟩
          have hva : (rpCL m.reports)[i]? = some (rpC v) := by simp [rpCL, hv]
          have hok := o9.2 v (List.mem_of_getElem? hv)
          conv => whnf
          refine ⟨by omega, by rw [l_reports]; omega, _, hva, by kernel_rfl, ?_⟩
          conv => whnf
          refine ⟨v, rfl, hok, ?_⟩
          conv => whnf
          refine ⟨fits_at (ys' := [rpC v]) (by kernel_rfl) (fits_lt (by kernel_rfl) (by kernel_rfl) (Nat.lt_of_le_of_lt (Nat.le_of_eq hcl) (by omega))), ?_⟩
          conv => whnf
          refine R_at ?_ ?_ (hR (i + 1, [v]) ⟨h4, ?_⟩ (by dsimp only; omega))
          · rw [← hi1 h4]; kernel_rfl
          · kernel_rfl
          · dsimp only
            rw [List.take_add_one, hv, ← i2]
            rfl
        · rename_i h3; have h3 : ¬ (i : Int) < (rpCL m.reports).length := of_decide_eq_false h3
          rw [l_reports] at h3
          rw [List.take_of_length_le (by omega)] at i2
          conv => whnf
          clear hR R
          have hQ' : Q (.ret (.agg (m15 m (rqCL m.picks) (rpCL m.reports)))) := hQ
          rw [← i2, ← hpk] at hQ'
          refine Eq.mp ?_ hQ'
          kernel_rfl
      · conv => whnf
        split
        · rename_i h3; have h3 : (i : Int) < (rpCL m.reports).length := of_decide_eq_true h3
          rw [l_reports] at h3
          have h4 : i < m.reports.length := by omega
          obtain ⟨v, hv⟩ : ∃ v, m.reports[i]? = some v := ⟨m.reports[i]'h4, List.getElem?_eq_getElem h4⟩
          have hva : (rpCL m.reports)[i]? = some (rpC v) := by simp [rpCL, hv]
          have hok := o9.2 v (List.mem_of_getElem? hv)
          conv => whnf
          refine ⟨by omega, by rw [l_reports]; omega, _, hva, by kernel_rfl, ?_⟩
          conv => whnf
          refine ⟨v, rfl, hok, ?_⟩
          conv => whnf
          refine ⟨fits_at (ys' := [rpC v]) (by kernel_rfl) (fits_lt (by kernel_rfl) (by kernel_rfl) (Nat.lt_of_le_of_lt (Nat.le_of_eq hcl) (by omega))), ?_⟩
          conv => whnf
          refine R_at ?_ ?_ (hR (i + 1, ((y :: ys) ++ [v])) ⟨h4, ?_⟩ (by dsimp only; omega))
          · rw [← hi1 h4]; kernel_rfl
          · show _ = _ ++ rowH0 28 8 (rpCL ((y :: ys) ++ [v]))
            rw [show rpCL ((y :: ys) ++ [v]) = rpCL (y :: ys) ++ [rpC v] by simp [rpCL]]
            kernel_rfl
          · dsimp only
            rw [List.take_add_one, hv, ← i2]
            rfl
        · rename_i h3; have h3 : ¬ (i : Int) < (rpCL m.reports).length := of_decide_eq_false h3
          rw [l_reports] at h3
          rw [List.take_of_length_le (by omega)] at i2
          conv => whnf
          clear hR R
          have hQ' : Q (.ret (.agg (m15 m (rqCL m.picks) (rpCL m.reports)))) := hQ
          rw [← i2, ← hpk] at hQ'
          refine Eq.mp ?_ hQ'
          kernel_rfl
  · conv => whnf
    split
    · rename_i h3; have h3 : (i : Int) < (rqCL m.picks).length := of_decide_eq_true h3
      rw [l_picks] at h3
      have h4 : i < m.picks.length := by omega
      obtain ⟨v, hv⟩ : ∃ v, m.picks[i]? = some v := ⟨m.picks[i]'h4, List.getElem?_eq_getElem h4⟩
      have hva : (rqCL m.picks)[i]? = some (rqC v) := by simp [rqCL, hv]
      have hok := o8.2 v (List.mem_of_getElem? hv)
      conv => whnf
      refine ⟨by omega, by rw [l_picks]; omega, _, hva, by kernel_rfl, ?_⟩
      conv => whnf
      refine ⟨v, rfl, hok, ?_⟩
      conv => whnf
      refine ⟨fits_at (ys' := [rqC v]) (by kernel_rfl) (fits_lt (by kernel_rfl) (by kernel_rfl) (Nat.lt_of_le_of_lt (Nat.le_of_eq hcl) (by omega))), ?_⟩
      conv => whnf
      refine R_at ?_ ?_ (hR (i + 1, ((x :: xs) ++ [v])) ⟨h4, ?_⟩ (by dsimp only; omega))
      · rw [← hi1 h4]; kernel_rfl
      · show _ = _ ++ rowH0 39 4 (rqCL ((x :: xs) ++ [v]))
        rw [show rqCL ((x :: xs) ++ [v]) = rqCL (x :: xs) ++ [rqC v] by simp [rqCL]]
        kernel_rfl
      · dsimp only
        rw [List.take_add_one, hv, ← i2]
        rfl
    · rename_i h3; have h3 : ¬ (i : Int) < (rqCL m.picks).length := of_decide_eq_false h3
      rw [l_picks] at h3
      rw [List.take_of_length_le (by omega)] at i2
      conv => whnf
      clear hR R
      have hpk := i2
      clear i1 i2 hcl hi1
      refine aloop_at ?_ ?_ (aloop_inv (σ := Nat × List RpV) (fun s => (sp 0 73 [(1, .ptr 0 0), (2, .ptr 5 0), (6, rowV6 (rpCL s.2)), (58, .slice (rpCL m.reports)), (59, .int .i64 ((rpCL m.reports).length : Nat)), (60, .int .i64 (s.1 : Nat))], [.var (c15 m (.row 4))] ++ h15 m ++ rowH0 39 4 (rqCL (x :: xs)) ++ [.var zC] ++ rowH0 28 8 (rpCL s.2)))
        (fun s => s.1 ≤ m.reports.length ∧ s.2 = m.reports.take s.1) (fun s => m.reports.length - s.1) ?_ N (0, []) ⟨Nat.zero_le _, rfl⟩ (by dsimp only; omega))
      · kernel_rfl
      · kernel_rfl
      rintro ⟨i, acc⟩ ⟨i1, i2⟩ R hR
      dsimp only at i1 i2
      have hcl : (rpCL acc).length = i := by rw [i2]; simp [rpCL]; omega
      have hi1 : i < m.reports.length → IntKind.i64.wrap ((i : Int) + 1) = ((i + 1 : Nat) : Int) := fun h => by rw [IntWalk.i64_in _ (by omega)]; omega
      rcases acc with _ | ⟨y, ys⟩
      · conv => whnf
        split
        · rename_i h3; have h3 : (i : Int) < (rpCL m.reports).length := of_decide_eq_true h3
          rw [l_reports] at h3
          have h4 : i < m.reports.length := by omega
          obtain ⟨v, hv⟩ : ∃ v, m.reports[i]? = some v := ⟨m.reports[i]'h4, List.getElem?_eq_getElem h4⟩
          have hva : (rpCL m.reports)[i]? = some (rpC v) := by simp [rpCL, hv]
          have hok := o9.2 v (List.mem_of_getElem? hv)
          conv => whnf
          refine ⟨by omega, by rw [l_reports]; omega, _, hva, by kernel_rfl, ?_⟩
          conv => whnf
          refine ⟨v, rfl, hok, ?_⟩
          conv => whnf
          refine ⟨fits_at (ys' := [rpC v]) (by kernel_rfl) (fits_lt (by kernel_rfl) (by kernel_rfl) (Nat.lt_of_le_of_lt (Nat.le_of_eq hcl) (by omega))), ?_⟩
          conv => whnf
          refine R_at ?_ ?_ (hR (i + 1, [v]) ⟨h4, ?_⟩ (by dsimp only; omega))
          · rw [← hi1 h4]; kernel_rfl
          · kernel_rfl
          · dsimp only
            rw [List.take_add_one, hv, ← i2]
            rfl
        · rename_i h3; have h3 : ¬ (i : Int) < (rpCL m.reports).length := of_decide_eq_false h3
          rw [l_reports] at h3
          rw [List.take_of_length_le (by omega)] at i2
          conv => whnf
          clear hR R
          have hQ' : Q (.ret (.agg (m15 m (rqCL m.picks) (rpCL m.reports)))) := hQ
          rw [← i2, ← hpk] at hQ'
          refine Eq.mp ?_ hQ'
          kernel_rfl
      · conv => whnf
        split
        · rename_i h3; have h3 : (i : Int) < (rpCL m.reports).length := of_decide_eq_true h3
          rw [l_reports] at h3
          have h4 : i < m.reports.length := by omega
          obtain ⟨v, hv⟩ : ∃ v, m.reports[i]? = some v := ⟨m.reports[i]'h4, List.getElem?_eq_getElem h4⟩
          have hva : (rpCL m.reports)[i]? = some (rpC v) := by simp [rpCL, hv]
          have hok := o9.2 v (List.mem_of_getElem? hv)
          conv => whnf
          refine ⟨by omega, by rw [l_reports]; omega, _, hva, by kernel_rfl, ?_⟩
          conv => whnf
          refine ⟨v, rfl, hok, ?_⟩
          conv => whnf
          refine ⟨fits_at (ys' := [rpC v]) (by kernel_rfl) (fits_lt (by kernel_rfl) (by kernel_rfl) (Nat.lt_of_le_of_lt (Nat.le_of_eq hcl) (by omega))), ?_⟩
          conv => whnf
          refine R_at ?_ ?_ (hR (i + 1, ((y :: ys) ++ [v])) ⟨h4, ?_⟩ (by dsimp only; omega))
          · rw [← hi1 h4]; kernel_rfl
          · show _ = _ ++ rowH0 28 8 (rpCL ((y :: ys) ++ [v]))
            rw [show rpCL ((y :: ys) ++ [v]) = rpCL (y :: ys) ++ [rpC v] by simp [rpCL]]
            kernel_rfl
          · dsimp only
            rw [List.take_add_one, hv, ← i2]
            rfl
        · rename_i h3; have h3 : ¬ (i : Int) < (rpCL m.reports).length := of_decide_eq_false h3
          rw [l_reports] at h3
          rw [List.take_of_length_le (by omega)] at i2
          conv => whnf
          clear hR R
          have hQ' : Q (.ret (.agg (m15 m (rqCL m.picks) (rpCL m.reports)))) := hQ
          rw [← i2, ← hpk] at hQ'
          refine Eq.mp ?_ hQ'
          kernel_rfl

set_option maxRecDepth 100000 in
theorem s15 {T : Tab} (hT : TGood Tryz.prog T) : SGood Tryz.prog 27 (pureT g15) := pureT_good g15_det fun args Q h => by
  unfold g15 at h
  split at h
  · obtain ⟨m, rfl, hm, hQ⟩ := h
    have t1 := ext_good hT (s23 hT)
    have t2 := ext_good t1 (s43 t1)
    exact body_pure (ext_good t2 (s44 t2)) mixedT Tryz.func27 (entersOf Tryz.func27 (by kernel_rfl) rfl) (m.picks.length + m.reports.length + 1) (f15_ok m hm T Q hQ _ (by omega) (by omega))
  · exact h.elim
end Go.Abs

/-
catenaryref05.Same of two like messages is true.
-/
namespace Go.Abs
open Go Go.Proofs

def g19 : GSpec := fun args K => match args with
  | [.agg cs, .agg ds] => ∃ m : MsV, cs = msC m ∧ ds = msC m ∧ OkM m ∧ K (.ret (.bool true))
  | _ => False
theorem g19_det (args : List AV) : Det (g19 args) := by
  unfold g19
  repeat' (first | exact Det.no | exact Det.at _ | refine Det.and ?_ | refine Det.ex fun _ => ?_ | refine Det.cond ?_ ?_ | split)
theorem g19_flat (args : List AV) (o : AOut) (h : g19 args (· = o)) : flatO o = true := by
  unfold g19 at h
  split at h
  · obtain ⟨_, _, _, _, rfl⟩ := h; rfl
  · exact h.elim
def T19 (T : Tab) : Tab := ext (ext (ext (ext T 25 (flatT g18)) 21 (flatT g25)) 44 (flatT g56)) 12 (flatT g57)

set_option maxRecDepth 100000 in
set_option maxHeartbeats 16000000 in
theorem f19_ok (m : MsV) (hm : OkM m) (T : Tab) (Q : AOut → Prop) (hQ : Q (.ret (.bool true))) (N : Nat) (hN : m.order.length < N) (hN2 : m.picks.length < N) (hN3 : m.reports.length < N) :
    abody Tryz.prog (T19 T) 0 N Tryz.f78 [.agg (msC m), .agg (msC m)] [] (fun out Hs => Q (frzO Hs out)) := by
  obtain ⟨o1, o2, o3, o4, o5, o6, o7, o8, o9⟩ := hm
  conv => whnf
  rw [ne_self]
  conv => whnf
  refine ⟨eq2_25, rfl, rfl, ?_⟩
  rw [bal_self]
  conv => whnf
  rw [ne_self]
  conv => whnf
  rw [ne_self]
  conv => whnf
  rw [ne_self]
  conv => whnf
  rw [ne_self]
  conv => whnf
  rw [ne_self]
  conv => whnf
  refine ⟨m.req, m.req, rfl, rfl, o1, o1, ?_⟩
  rw [rqEq_self]
  conv => whnf
  refine ⟨m.other, m.other, rfl, rfl, o2, o2, ?_⟩
  rw [rqEq_self]
  conv => whnf
  refine ⟨m.data, m.data, rfl, rfl, o3.1, o3.1, ?_⟩
  rw [show decide (m.data = m.data) = true by simp]
  conv => whnf
  refine ⟨m.sig, m.sig, rfl, rfl, o4.1, o4.1, ?_⟩
  rw [show decide (m.sig = m.sig) = true by simp]
  conv => whnf
  refine ⟨m.cert, m.cert, rfl, rfl, o5, o5, ?_⟩
  rw [vtsEq_self]
  conv => whnf
  refine ⟨m.votes, m.votes, rfl, rfl, o6, o6, ?_⟩
  rw [vtsEq_self]
  conv => whnf
  rw [ne_self]
  conv => whnf
  rw [ne_self]
  conv => whnf
  rw [ne_self]
  conv => whnf
  have l129 : (inCL m.order).length = m.order.length := by simp [inCL]
  refine aloop_at ?_ ?_ (aloop_inv (σ := Nat) (fun i => ((sp 0 182 [(2, .ptr 0 0), (3, .ptr 1 0), (128, .int .i64 ((inCL m.order).length : Nat)), (129, .int .i64 (i : Nat))]), [.var (msC m), .var (msC m)]))
    (fun i => i ≤ m.order.length) (fun i => m.order.length - i) ?_ N 0 (Nat.zero_le _) (by omega))
  · kernel_rfl
  · kernel_rfl
  rintro i i1 R hR
  conv => whnf
  split
  · rename_i h2; have h2 : (i : Int) < (inCL m.order).length := of_decide_eq_true h2
    rw [l129] at h2
    obtain ⟨x, hx⟩ : ∃ x, m.order[i]? = some x := ⟨m.order[i]'(by omega), List.getElem?_eq_getElem (by omega)⟩
    have hxa : (inCL m.order)[i]? = some (inC x) := by simp [inCL, hx]
    have hi1 : IntKind.i64.wrap ((i : Int) + 1) = ((i + 1 : Nat) : Int) := by rw [IntWalk.i64_in _ (by have := o7; omega)]; omega
    conv => whnf
    refine ⟨[], ?_⟩
    conv => whnf
    refine ⟨by omega, by rw [l129]; omega, _, hxa, by kernel_rfl, ?_⟩
    conv => whnf
    refine ⟨by omega, by rw [l129]; omega, _, hxa, by kernel_rfl, ?_⟩
    conv => whnf
    rw [ne_self]
    conv => whnf
    refine R_at ?_ ?_ (hR (i + 1) (by omega) (by omega))
    · rw [← hi1]; kernel_rfl
    · kernel_rfl
  conv => whnf
  clear hR R
  have l147 : (rqCL m.picks).length = m.picks.length := by simp [rqCL]
  refine aloop_at ?_ ?_ (aloop_inv (σ := Nat) (fun i => ((sp 0 182 [(2, .ptr 0 0), (3, .ptr 1 0), (146, .int .i64 ((rqCL m.picks).length : Nat)), (147, .int .i64 (i : Nat))]), [.var (msC m), .var (msC m)]))
    (fun i => i ≤ m.picks.length) (fun i => m.picks.length - i) ?_ N 0 (Nat.zero_le _) (by omega))
  · kernel_rfl
  · kernel_rfl
  rintro i i1 R hR
  conv => whnf
  split
  · rename_i h2; have h2 : (i : Int) < (rqCL m.picks).length := of_decide_eq_true h2
    rw [l147] at h2
    obtain ⟨x, hx⟩ : ∃ x, m.picks[i]? = some x := ⟨m.picks[i]'(by omega), List.getElem?_eq_getElem (by omega)⟩
    have hxa : (rqCL m.picks)[i]? = some (rqC x) := by simp [rqCL, hx]
    have hi1 : IntKind.i64.wrap ((i : Int) + 1) = ((i + 1 : Nat) : Int) := by rw [IntWalk.i64_in _ (by have := o8.1; omega)]; omega
    conv => whnf
    refine ⟨[], ?_⟩
    conv => whnf
    refine ⟨by omega, by rw [l147]; omega, _, hxa, by kernel_rfl, ?_⟩
    conv => whnf
    refine ⟨by omega, by rw [l147]; omega, _, hxa, by kernel_rfl, ?_⟩
    conv => whnf
    refine ⟨x, x, rfl, rfl, o8.2 x (List.mem_of_getElem? hx), o8.2 x (List.mem_of_getElem? hx), ?_⟩
    rw [rqEq_self]
    conv => whnf
    refine ⟨rfl, ?_⟩
    conv => whnf
    refine R_at ?_ ?_ (hR (i + 1) (by omega) (by omega))
    · rw [← hi1]; kernel_rfl
    · kernel_rfl
  conv => whnf
  clear hR R
  have l166 : (rpCL m.reports).length = m.reports.length := by simp [rpCL]
  refine aloop_at ?_ ?_ (aloop_inv (σ := Nat) (fun i => ((sp 0 182 [(2, .ptr 0 0), (3, .ptr 1 0), (165, .int .i64 ((rpCL m.reports).length : Nat)), (166, .int .i64 (i : Nat))]), [.var (msC m), .var (msC m)]))
    (fun i => i ≤ m.reports.length) (fun i => m.reports.length - i) ?_ N 0 (Nat.zero_le _) (by omega))
  · kernel_rfl
  · kernel_rfl
  rintro i i1 R hR
  conv => whnf
  split
  · rename_i h2; have h2 : (i : Int) < (rpCL m.reports).length := of_decide_eq_true h2
    rw [l166] at h2
    obtain ⟨x, hx⟩ : ∃ x, m.reports[i]? = some x := ⟨m.reports[i]'(by omega), List.getElem?_eq_getElem (by omega)⟩
    have hxa : (rpCL m.reports)[i]? = some (rpC x) := by simp [rpCL, hx]
    have hi1 : IntKind.i64.wrap ((i : Int) + 1) = ((i + 1 : Nat) : Int) := by rw [IntWalk.i64_in _ (by have := o9.1; omega)]; omega
    conv => whnf
    refine ⟨[], ?_⟩
    conv => whnf
    refine ⟨by omega, by rw [l166]; omega, _, hxa, by kernel_rfl, ?_⟩
    conv => whnf
    refine ⟨by omega, by rw [l166]; omega, _, hxa, by kernel_rfl, ?_⟩
    conv => whnf
    refine ⟨x, rfl, rfl, o9.2 x (List.mem_of_getElem? hx), ?_⟩
    conv => whnf
    refine ⟨rfl, ?_⟩
    conv => whnf
    refine R_at ?_ ?_ (hR (i + 1) (by omega) (by omega))
    · rw [← hi1]; kernel_rfl
    · kernel_rfl
  conv => whnf
  clear hR R
  refine Eq.mp ?_ hQ
  kernel_rfl

set_option maxRecDepth 100000 in
theorem s19 {T : Tab} (hT : TGood Tryz.prog T) : SGood Tryz.prog 78 (flatT g19) := flatT_good g19_det g19_flat fun args Q h => by
  unfold g19 at h
  split at h
  · obtain ⟨m, rfl, rfl, hm, hQ⟩ := h
    have t1 := ext_good hT (s18 hT)
    have t2 := ext_good t1 (s25 t1)
    have t3 := ext_good t2 (s56 t2)
    exact body_pure (ext_good t3 (s57 t3)) mixedT Tryz.func78 (entersOf Tryz.func78 (by kernel_rfl) rfl) (m.order.length + m.picks.length + m.reports.length + 1) (f19_ok m hm T Q hQ _ (by omega) (by omega) (by omega))
  · exact h.elim
end Go.Abs

/-
A function's answer is frozen but for its last cell: what that cell reaches stays an object.
-/
namespace Go.Abs
open Go
variable {P : Program}

/-- The state behind a function whose answer (a struct) is frozen but for its last cell. -/
def lastA (Hs : Heap) (cs : List AV) (y : AV) : List AV × Heap := agc 0 [0] [.agg ((frzs Hs cs).1 ++ [y])] (frzs Hs cs).2
theorem frozL_ok {f : FuncId} {args : List AV} {Q : AOut → Heap → Prop} (h : FOK P f args [] fun out Hs => ∃ (cs : List AV) (y x : AV) (H1 : Heap), out = .ret (.agg (cs ++ [y])) ∧ lastA Hs cs y = ([x], H1) ∧ Q (.ret x) H1) : FOK P f args [] Q := by
  refine ⟨h.1, fun Mx G w cargs hs ht => (h.2 Mx G w cargs hs ht).mono fun e w' ⟨out, H', G', h1, h2, h3, h4⟩ => ?_⟩
  obtain ⟨cs, y, x, H1, rfl, hA, hQ⟩ := h4
  cases h3 with
  | ret v x' hr =>
    obtain ⟨vs, rfl, hl, hc⟩ := hr.agg_inv
    have hsz : vs.size = cs.length + 1 := by simpa using hl
    obtain ⟨k1, k2, k3, k4, k5⟩ := frzs_sound cs H' (vs.toList.take cs.length) h2 (by simp; omega) (fun i u z e1 e2 => by
      have hi := (List.getElem?_eq_some_iff.1 e2).1
      rw [List.getElem?_take_of_lt hi] at e1
      exact hc i u z (by simpa using e1) (by rw [List.getElem?_append_left hi]; exact e2))
    have hr2 : RV w' (MM Mx G' (frzs H' cs).2) (frzs H' cs).2.length G' (.agg vs) (.agg ((frzs H' cs).1 ++ [y])) := by
      refine .agg _ _ _ _ (by rw [List.length_append, k4]; simpa using hl) (fun i u z e1 e2 => ?_)
      by_cases hi : i < cs.length
      · rw [List.getElem?_append_left (by omega)] at e2
        exact (k5 i u z (by rw [List.getElem?_take_of_lt hi]; simpa using e1) e2).lift
      · rw [List.getElem?_append_right (by omega), k4] at e2
        exact k2.rv (hc i u z e1 (by rw [List.getElem?_append_right (by omega)]; exact e2))
    have htv : TV w' (MM Mx G' (frzs H' cs).2) (frzs H' cs).2.length G' #[.agg vs] [.agg ((frzs H' cs).1 ++ [y])] := by
      refine ⟨rfl, fun i u z e1 e2 => ?_⟩
      match i, e1, e2 with
      | 0, e1, e2 => cases e1; cases e2; exact hr2
    obtain ⟨G2, s1, t1, st1, _⟩ := agc_sound (pin := 0) [0] (Nat.zero_le _) k1 htv
    have hA' : agc 0 [0] [.agg ((frzs H' cs).1 ++ [y])] (frzs H' cs).2 = ([x], H1) := hA
    rw [hA'] at s1 t1 st1
    exact ⟨_, H1, G2, (h1.trans (Nat.zero_le _) k2).trans (Nat.zero_le _) st1, s1, .ret _ _ (t1.2 0 _ _ rfl rfl), hQ⟩
theorem body_last {T : Tab} (hT : TGood P T) (hm : P.follows .mixedOrders = true) {f : FuncId} {fn : Func} (hf : P.funcs[f]? = some fn) (hent : Enters P f) (N : Nat) {args : List AV} {Q : AOut → Heap → Prop}
    (h : abody P T 0 N fn args [] fun out Hs => ∃ (cs : List AV) (y x : AV) (H1 : Heap), out = .ret (.agg (cs ++ [y])) ∧ lastA Hs cs y = ([x], H1) ∧ Q (.ret x) H1) : FOK P f args [] Q :=
  frozL_ok (abody_sound hT.ok hT.ang hT.mono hm hf hent (N := N) (H := []) h)

end Go.Abs

/-
catenaryref05.Copy, with the row of its reports handed back.
-/
namespace Go.Abs
open Go Go.Proofs

def i15 (m : MsV) (d s o p : AV) : List AV := [.int .i64 m.kind, .int .i64 m.bal.view, .int .i64 m.bal.turn, .int .i64 m.slot, .int .i64 m.from_, .int .i64 m.to, .int .i64 m.index, .int .i64 m.count,
  .int .i64 m.req.client, .int .i64 m.req.stamp, .slice (bsA m.req.op), .slice (bsA m.req.sig), .int .i64 m.other.client, .int .i64 m.other.stamp, .slice (bsA m.other.op), .slice (bsA m.other.sig),
  d, s, .slice (vtCL m.cert), .slice (vtCL m.votes), o, p]
def rvR (l : List (List AV)) : AV := match l with | [] => .zslice | _ => .row 0
def rhR (l : List (List AV)) : Heap := match l with | [] => [] | _ => [.row true 28 8 l]
def g15r : FSpec := fun args K => match args with
  | [.agg cs] => ∃ m : MsV, cs = msC m ∧ OkM m ∧ K (.ret (.agg (i15 m (.slice (bsA m.data)) (.slice (bsA m.sig)) (.slice (inCL m.order)) (.slice (rqCL m.picks)) ++ [rvR (rpCL m.reports)]))) (rhR (rpCL m.reports))
  | _ => False
theorem g15r_det (args : List AV) : DetF (g15r args) := by
  unfold g15r
  repeat' (first | exact DetF.no | exact DetF.at _ _ | refine DetF.and ?_ | refine DetF.ex fun _ => ?_ | refine DetF.cond ?_ ?_ | split)

set_option maxRecDepth 100000 in
set_option maxHeartbeats 16000000 in
theorem f15r_ok (m : MsV) (hm : OkM m) (T : Tab) (Q : AOut → Heap → Prop) (hQ : Q (.ret (.agg (i15 m (.slice (bsA m.data)) (.slice (bsA m.sig)) (.slice (inCL m.order)) (.slice (rqCL m.picks)) ++ [rvR (rpCL m.reports)]))) (rhR (rpCL m.reports))) (N : Nat) (hN : m.picks.length < N) (hN2 : m.reports.length < N) :
    abody Tryz.prog (T15 T) 0 N Tryz.f27 [.agg (msC m)] [] (fun out Hs => ∃ (cs : List AV) (y x : AV) (H1 : Heap), out = .ret (.agg (cs ++ [y])) ∧ lastA Hs cs y = ([x], H1) ∧ Q (.ret x) H1) := by
  obtain ⟨o1, o2, o3, o4, o5, o6, o7, o8, o9⟩ := hm
  have hp1 := o8.1
  have hr1 := o9.1
  have l_picks : (rqCL m.picks).length = m.picks.length := by simp [rqCL]
  have l_reports : (rpCL m.reports).length = m.reports.length := by simp [rpCL]
  conv => whnf
  refine ⟨m.req, rfl, o1, ?_⟩
  conv => whnf
  refine ⟨m.other, rfl, o2, ?_⟩
  conv => whnf
  refine ⟨fits_bs (by have := o3.2; omega), ?_⟩
  conv => whnf
  refine ⟨fits_bs (by have := o4.2; omega), ?_⟩
  conv => whnf
  refine ⟨m.cert, rfl, o5, ?_⟩
  conv => whnf
  refine ⟨m.votes, rfl, o6, ?_⟩
  conv => whnf
  refine ⟨fits_in o7, ?_⟩
  conv => whnf
  refine aloop_at ?_ ?_ (aloop_inv (σ := Nat × List RqV) (fun s => (sp 0 73 [(1, .ptr 0 0), (2, .ptr 4 0), (3, rowV5 (rqCL s.2)), (42, .slice (rqCL m.picks)), (43, .int .i64 ((rqCL m.picks).length : Nat)), (44, .int .i64 (s.1 : Nat))], [.var (c15 m (.slice (rqCL m.picks)))] ++ h15 m ++ [.var zC] ++ rowH0 39 4 (rqCL s.2)))
    (fun s => s.1 ≤ m.picks.length ∧ s.2 = m.picks.take s.1) (fun s => m.picks.length - s.1) ?_ N (0, []) ⟨Nat.zero_le _, rfl⟩ (by dsimp only; omega))
  · kernel_rfl
  · kernel_rfl
  rintro ⟨i, acc⟩ ⟨i1, i2⟩ R hR
  dsimp only at i1 i2
  have hcl : (rqCL acc).length = i := by rw [i2]; simp [rqCL]; omega
  have hi1 : i < m.picks.length → IntKind.i64.wrap ((i : Int) + 1) = ((i + 1 : Nat) : Int) := fun h => by rw [IntWalk.i64_in _ (by omega)]; omega
  rcases acc with _ | ⟨x, xs⟩
  · conv => whnf
    split
    · rename_i h3; have h3 : (i : Int) < (rqCL m.picks).length := of_decide_eq_true h3
      rw [l_picks] at h3
      have h4 : i < m.picks.length := by omega
      obtain ⟨v, hv⟩ : ∃ v, m.picks[i]? = some v := ⟨m.picks[i]'h4, List.getElem?_eq_getElem h4⟩
      have hva : (rqCL m.picks)[i]? = some (rqC v) := by simp [rqCL, hv]
      have hok := o8.2 v (List.mem_of_getElem? hv)
      conv => whnf
      refine ⟨by omega, by rw [l_picks]; omega, _, hva, by kernel_rfl, ?_⟩
      conv => whnf
      refine ⟨v, rfl, hok, ?_⟩
      conv => whnf
      refine ⟨fits_at (ys' := [rqC v]) (by kernel_rfl) (fits_lt (by kernel_rfl) (by kernel_rfl) (Nat.lt_of_le_of_lt (Nat.le_of_eq hcl) (by omega))), ?_⟩
      conv => whnf
      refine R_at ?_ ?_ (hR (i + 1, [v]) ⟨h4, ?_⟩ (by dsimp only; omega))
      · rw [← hi1 h4]; kernel_rfl
      · kernel_rfl
      · dsimp only
        rw [List.take_add_one, hv, ← i2]
        rfl
    · rename_i h3; have h3 : ¬ (i : Int) < (rqCL m.picks).length := of_decide_eq_false h3
      rw [l_picks] at h3
      rw [List.take_of_length_le (by omega)] at i2
      conv => whnf
      clear hR R
      have hpk := i2
      clear i1 i2 hcl hi1
      refine aloop_at ?_ ?_ (aloop_inv (σ := Nat × List RpV) (fun s => (sp 0 73 [(1, .ptr 0 0), (2, .ptr 4 0), (6, rowV5 (rpCL s.2)), (58, .slice (rpCL m.reports)), (59, .int .i64 ((rpCL m.reports).length : Nat)), (60, .int .i64 (s.1 : Nat))], [.var (c15 m .zslice)] ++ h15 m ++ rowH0 39 4 (rqCL []) ++ [.var zC] ++ rowH0 28 8 (rpCL s.2)))
        (fun s => s.1 ≤ m.reports.length ∧ s.2 = m.reports.take s.1) (fun s => m.reports.length - s.1) ?_ N (0, []) ⟨Nat.zero_le _, rfl⟩ (by dsimp only; omega))
      · kernel_rfl
      · kernel_rfl
      rintro ⟨i, acc⟩ ⟨i1, i2⟩ R hR
      dsimp only at i1 i2
      have hcl : (rpCL acc).length = i := by rw [i2]; simp [rpCL]; omega
      have hi1 : i < m.reports.length → IntKind.i64.wrap ((i : Int) + 1) = ((i + 1 : Nat) : Int) := fun h => by rw [IntWalk.i64_in _ (by omega)]; omega
      rcases acc with _ | ⟨y, ys⟩
      · conv => whnf
        split
        · rename_i h3; have h3 : (i : Int) < (rpCL m.reports).length := of_decide_eq_true h3
          rw [l_reports] at h3
          have h4 : i < m.reports.length := by omega
          obtain ⟨v, hv⟩ : ∃ v, m.reports[i]? = some v := ⟨m.reports[i]'h4, List.getElem?_eq_getElem h4⟩
          have hva : (rpCL m.reports)[i]? = some (rpC v) := by simp [rpCL, hv]
          have hok := o9.2 v (List.mem_of_getElem? hv)
          conv => whnf
          refine ⟨by omega, by rw [l_reports]; omega, _, hva, by kernel_rfl, ?_⟩
          conv => whnf
          refine ⟨v, rfl, hok, ?_⟩
          conv => whnf
          refine ⟨fits_at (ys' := [rpC v]) (by kernel_rfl) (fits_lt (by kernel_rfl) (by kernel_rfl) (Nat.lt_of_le_of_lt (Nat.le_of_eq hcl) (by omega))), ?_⟩
          conv => whnf
          refine R_at ?_ ?_ (hR (i + 1, [v]) ⟨h4, ?_⟩ (by dsimp only; omega))
          · rw [← hi1 h4]; kernel_rfl
          · kernel_rfl
          · dsimp only
            rw [List.take_add_one, hv, ← i2]
            rfl
        · rename_i h3; have h3 : ¬ (i : Int) < (rpCL m.reports).length := of_decide_eq_false h3
          rw [l_reports] at h3
          rw [List.take_of_length_le (by omega)] at i2
          conv => whnf
          clear hR R
          have hQ' : Q (.ret (.agg (i15 m (.slice (bsA m.data)) (.slice (bsA m.sig)) (.slice (inCL m.order)) (.slice (rqCL m.picks)) ++ [rvR (rpCL m.reports)]))) (rhR (rpCL m.reports)) := hQ
          rw [← i2, ← hpk] at hQ'
          refine ⟨i15 m (.row 0) (.row 1) (.row 2) (.zslice), .zslice, .agg (i15 m (.slice (bsA m.data)) (.slice (bsA m.sig)) (.slice (inCL m.order)) (.slice (rqCL [])) ++ [rvR (rpCL [])]), rhR (rpCL []), by kernel_rfl, by kernel_rfl, ?_⟩
          exact hQ'
      · conv => whnf
        split
        · rename_i h3; have h3 : (i : Int) < (rpCL m.reports).length := of_decide_eq_true h3
          rw [l_reports] at h3
          have h4 : i < m.reports.length := by omega
          obtain ⟨v, hv⟩ : ∃ v, m.reports[i]? = some v := ⟨m.reports[i]'h4, List.getElem?_eq_getElem h4⟩
          have hva : (rpCL m.reports)[i]? = some (rpC v) := by simp [rpCL, hv]
          have hok := o9.2 v (List.mem_of_getElem? hv)
          conv => whnf
          refine ⟨by omega, by rw [l_reports]; omega, _, hva, by kernel_rfl, ?_⟩
          conv => whnf
          refine ⟨v, rfl, hok, ?_⟩
          conv => whnf
          refine ⟨fits_at (ys' := [rpC v]) (by kernel_rfl) (fits_lt (by kernel_rfl) (by kernel_rfl) (Nat.lt_of_le_of_lt (Nat.le_of_eq hcl) (by omega))), ?_⟩
          conv => whnf
          refine R_at ?_ ?_ (hR (i + 1, ((y :: ys) ++ [v])) ⟨h4, ?_⟩ (by dsimp only; omega))
          · rw [← hi1 h4]; kernel_rfl
          · show _ = _ ++ rowH0 28 8 (rpCL ((y :: ys) ++ [v]))
            rw [show rpCL ((y :: ys) ++ [v]) = rpCL (y :: ys) ++ [rpC v] by simp [rpCL]]
            kernel_rfl
          · dsimp only
            rw [List.take_add_one, hv, ← i2]
            rfl
        · rename_i h3; have h3 : ¬ (i : Int) < (rpCL m.reports).length := of_decide_eq_false h3
          rw [l_reports] at h3
          rw [List.take_of_length_le (by omega)] at i2
          conv => whnf
          clear hR R
          have hQ' : Q (.ret (.agg (i15 m (.slice (bsA m.data)) (.slice (bsA m.sig)) (.slice (inCL m.order)) (.slice (rqCL m.picks)) ++ [rvR (rpCL m.reports)]))) (rhR (rpCL m.reports)) := hQ
          rw [← i2, ← hpk] at hQ'
          refine ⟨i15 m (.row 0) (.row 1) (.row 2) (.zslice), .row 3, .agg (i15 m (.slice (bsA m.data)) (.slice (bsA m.sig)) (.slice (inCL m.order)) (.slice (rqCL [])) ++ [rvR (rpCL (y :: ys))]), rhR (rpCL (y :: ys)), by kernel_rfl, by kernel_rfl, ?_⟩
          exact hQ'
  · conv => whnf
    split
    · rename_i h3; have h3 : (i : Int) < (rqCL m.picks).length := of_decide_eq_true h3
      rw [l_picks] at h3
      have h4 : i < m.picks.length := by omega
      obtain ⟨v, hv⟩ : ∃ v, m.picks[i]? = some v := ⟨m.picks[i]'h4, List.getElem?_eq_getElem h4⟩
      have hva : (rqCL m.picks)[i]? = some (rqC v) := by simp [rqCL, hv]
      have hok := o8.2 v (List.mem_of_getElem? hv)
      conv => whnf
      refine ⟨by omega, by rw [l_picks]; omega, _, hva, by kernel_rfl, ?_⟩
      conv => whnf
      refine ⟨v, rfl, hok, ?_⟩
      conv => whnf
      refine ⟨fits_at (ys' := [rqC v]) (by kernel_rfl) (fits_lt (by kernel_rfl) (by kernel_rfl) (Nat.lt_of_le_of_lt (Nat.le_of_eq hcl) (by omega))), ?_⟩
      conv => whnf
      refine R_at ?_ ?_ (hR (i + 1, ((x :: xs) ++ [v])) ⟨h4, ?_⟩ (by dsimp only; omega))
      · rw [← hi1 h4]; kernel_rfl
      · show _ = _ ++ rowH0 39 4 (rqCL ((x :: xs) ++ [v]))
        rw [show rqCL ((x :: xs) ++ [v]) = rqCL (x :: xs) ++ [rqC v] by simp [rqCL]]
        kernel_rfl
      · dsimp only
        rw [List.take_add_one, hv, ← i2]
        rfl
    · rename_i h3; have h3 : ¬ (i : Int) < (rqCL m.picks).length := of_decide_eq_false h3
      rw [l_picks] at h3
      rw [List.take_of_length_le (by omega)] at i2
      conv => whnf
      clear hR R
      have hpk := i2
      clear i1 i2 hcl hi1
      refine aloop_at ?_ ?_ (aloop_inv (σ := Nat × List RpV) (fun s => (sp 0 73 [(1, .ptr 0 0), (2, .ptr 5 0), (6, rowV6 (rpCL s.2)), (58, .slice (rpCL m.reports)), (59, .int .i64 ((rpCL m.reports).length : Nat)), (60, .int .i64 (s.1 : Nat))], [.var (c15 m (.row 4))] ++ h15 m ++ rowH0 39 4 (rqCL (x :: xs)) ++ [.var zC] ++ rowH0 28 8 (rpCL s.2)))
        (fun s => s.1 ≤ m.reports.length ∧ s.2 = m.reports.take s.1) (fun s => m.reports.length - s.1) ?_ N (0, []) ⟨Nat.zero_le _, rfl⟩ (by dsimp only; omega))
      · kernel_rfl
      · kernel_rfl
      rintro ⟨i, acc⟩ ⟨i1, i2⟩ R hR
      dsimp only at i1 i2
      have hcl : (rpCL acc).length = i := by rw [i2]; simp [rpCL]; omega
      have hi1 : i < m.reports.length → IntKind.i64.wrap ((i : Int) + 1) = ((i + 1 : Nat) : Int) := fun h => by rw [IntWalk.i64_in _ (by omega)]; omega
      rcases acc with _ | ⟨y, ys⟩
      · conv => whnf
        split
        · rename_i h3; have h3 : (i : Int) < (rpCL m.reports).length := of_decide_eq_true h3
          rw [l_reports] at h3
          have h4 : i < m.reports.length := by omega
          obtain ⟨v, hv⟩ : ∃ v, m.reports[i]? = some v := ⟨m.reports[i]'h4, List.getElem?_eq_getElem h4⟩
          have hva : (rpCL m.reports)[i]? = some (rpC v) := by simp [rpCL, hv]
          have hok := o9.2 v (List.mem_of_getElem? hv)
          conv => whnf
          refine ⟨by omega, by rw [l_reports]; omega, _, hva, by kernel_rfl, ?_⟩
          conv => whnf
          refine ⟨v, rfl, hok, ?_⟩
          conv => whnf
          refine ⟨fits_at (ys' := [rpC v]) (by kernel_rfl) (fits_lt (by kernel_rfl) (by kernel_rfl) (Nat.lt_of_le_of_lt (Nat.le_of_eq hcl) (by omega))), ?_⟩
          conv => whnf
          refine R_at ?_ ?_ (hR (i + 1, [v]) ⟨h4, ?_⟩ (by dsimp only; omega))
          · rw [← hi1 h4]; kernel_rfl
          · kernel_rfl
          · dsimp only
            rw [List.take_add_one, hv, ← i2]
            rfl
        · rename_i h3; have h3 : ¬ (i : Int) < (rpCL m.reports).length := of_decide_eq_false h3
          rw [l_reports] at h3
          rw [List.take_of_length_le (by omega)] at i2
          conv => whnf
          clear hR R
          have hQ' : Q (.ret (.agg (i15 m (.slice (bsA m.data)) (.slice (bsA m.sig)) (.slice (inCL m.order)) (.slice (rqCL m.picks)) ++ [rvR (rpCL m.reports)]))) (rhR (rpCL m.reports)) := hQ
          rw [← i2, ← hpk] at hQ'
          refine ⟨i15 m (.row 0) (.row 1) (.row 2) (.row 3), .zslice, .agg (i15 m (.slice (bsA m.data)) (.slice (bsA m.sig)) (.slice (inCL m.order)) (.slice (rqCL (x :: xs))) ++ [rvR (rpCL [])]), rhR (rpCL []), by kernel_rfl, by kernel_rfl, ?_⟩
          exact hQ'
      · conv => whnf
        split
        · rename_i h3; have h3 : (i : Int) < (rpCL m.reports).length := of_decide_eq_true h3
          rw [l_reports] at h3
          have h4 : i < m.reports.length := by omega
          obtain ⟨v, hv⟩ : ∃ v, m.reports[i]? = some v := ⟨m.reports[i]'h4, List.getElem?_eq_getElem h4⟩
          have hva : (rpCL m.reports)[i]? = some (rpC v) := by simp [rpCL, hv]
          have hok := o9.2 v (List.mem_of_getElem? hv)
          conv => whnf
          refine ⟨by omega, by rw [l_reports]; omega, _, hva, by kernel_rfl, ?_⟩
          conv => whnf
          refine ⟨v, rfl, hok, ?_⟩
          conv => whnf
          refine ⟨fits_at (ys' := [rpC v]) (by kernel_rfl) (fits_lt (by kernel_rfl) (by kernel_rfl) (Nat.lt_of_le_of_lt (Nat.le_of_eq hcl) (by omega))), ?_⟩
          conv => whnf
          refine R_at ?_ ?_ (hR (i + 1, ((y :: ys) ++ [v])) ⟨h4, ?_⟩ (by dsimp only; omega))
          · rw [← hi1 h4]; kernel_rfl
          · show _ = _ ++ rowH0 28 8 (rpCL ((y :: ys) ++ [v]))
            rw [show rpCL ((y :: ys) ++ [v]) = rpCL (y :: ys) ++ [rpC v] by simp [rpCL]]
            kernel_rfl
          · dsimp only
            rw [List.take_add_one, hv, ← i2]
            rfl
        · rename_i h3; have h3 : ¬ (i : Int) < (rpCL m.reports).length := of_decide_eq_false h3
          rw [l_reports] at h3
          rw [List.take_of_length_le (by omega)] at i2
          conv => whnf
          clear hR R
          have hQ' : Q (.ret (.agg (i15 m (.slice (bsA m.data)) (.slice (bsA m.sig)) (.slice (inCL m.order)) (.slice (rqCL m.picks)) ++ [rvR (rpCL m.reports)]))) (rhR (rpCL m.reports)) := hQ
          rw [← i2, ← hpk] at hQ'
          refine ⟨i15 m (.row 0) (.row 1) (.row 2) (.row 3), .row 4, .agg (i15 m (.slice (bsA m.data)) (.slice (bsA m.sig)) (.slice (inCL m.order)) (.slice (rqCL (x :: xs))) ++ [rvR (rpCL (y :: ys))]), rhR (rpCL (y :: ys)), by kernel_rfl, by kernel_rfl, ?_⟩
          exact hQ'


set_option maxRecDepth 100000 in
theorem s15r {T : Tab} (hT : TGood Tryz.prog T) : SGood Tryz.prog 27 (freshT g15r) := freshT_good g15r_det fun args Q h => by
  unfold g15r at h
  split at h
  · obtain ⟨m, rfl, hm, hQ⟩ := h
    have t1 := ext_good hT (s23 hT)
    have t2 := ext_good t1 (s43 t1)
    exact body_last (ext_good t2 (s44 t2)) mixedT Tryz.func27 (entersOf Tryz.func27 (by kernel_rfl) rfl) (m.picks.length + m.reports.length + 1) (f15r_ok m hm T Q hQ _ (by omega) (by omega))
  · exact h.elim
end Go.Abs

/-
catenaryref06.bare, with the row of its reports handed back.
-/
namespace Go.Abs
open Go Go.Proofs

/-- A message's cells, its reports' row apart. -/
def iM (m : MsV) : List AV := i15 m (.slice (bsA m.data)) (.slice (bsA m.sig)) (.slice (inCL m.order)) (.slice (rqCL m.picks)) ++ [rvR (rpCL m.reports)]
def g73 : FSpec := fun args K => match args with
  | [.agg cs] => ∃ m : MsV, cs = msC m ∧ OkM m ∧ K (.ret (.agg (iM (bareM m)))) (rhR (rpCL (bareM m).reports))
  | _ => False
theorem g73_det (args : List AV) : DetF (g73 args) := by
  unfold g73
  repeat' (first | exact DetF.no | exact DetF.at _ _ | refine DetF.and ?_ | refine DetF.ex fun _ => ?_ | refine DetF.cond ?_ ?_ | split)

set_option maxRecDepth 100000 in
set_option maxHeartbeats 8000000 in
theorem f73_one (m : MsV) (r : RpV) (h1 : oneM m = true) (hk : m.kind = 8) (hr : m.reports = [r]) (hm : OkM m) (T : Tab) (Q : AOut → Heap → Prop) (hQ : Q (.ret (.agg (iM (bareM m)))) (rhR (rpCL (bareM m).reports))) (N : Nat) :
    abody Tryz.prog (ext (ext T 27 (freshT g15r)) 132 (flatT g74)) 0 N Tryz.f129 [.agg (msC m)] [] (fun out Hs => ∃ (cs : List AV) (y x : AV) (H1 : Heap), out = .ret (.agg (cs ++ [y])) ∧ lastA Hs cs y = ([x], H1) ∧ Q (.ret x) H1) := by
  have hbe : bareM m = { m with reports := [{ r with sig := [] }] } := by unfold bareM withSig; rw [h1, hr]; rfl
  rw [hbe] at hQ
  clear hbe
  obtain ⟨kind, bal, slot, from_, to, index, count, req, other, data, sig, cert, votes, order, picks, reports⟩ := m
  dsimp only at hk hr
  subst hk; subst hr
  conv => whnf
  refine ⟨⟨8, bal, slot, from_, to, index, count, req, other, data, sig, cert, votes, order, picks, [r]⟩, rfl, hm, ?_⟩
  conv => whnf
  refine ⟨⟨8, bal, slot, from_, to, index, count, req, other, data, sig, cert, votes, order, picks, [r]⟩, by kernel_rfl, ?_⟩
  rw [h1]
  conv => whnf
  refine ⟨by kernel_rfl, by decide, by show (0 : Int) < 1; decide, ?_⟩
  conv => whnf
  refine ⟨rpC r, by kernel_rfl, of_decide_eq_true (by kernel_rfl), ?_⟩
  conv => whnf
  refine ⟨i15 ⟨8, bal, slot, from_, to, index, count, req, other, data, sig, cert, votes, order, picks, [r]⟩ (.slice (bsA data)) (.slice (bsA sig)) (.slice (inCL order)) (.slice (rqCL picks)), .row 0, .agg (iM ⟨8, bal, slot, from_, to, index, count, req, other, data, sig, cert, votes, order, picks, [{ r with sig := [] }]⟩), rhR (rpCL [{ r with sig := [] }]), by kernel_rfl, by kernel_rfl, ?_⟩
  refine Eq.mp ?_ hQ
  kernel_rfl

set_option maxRecDepth 100000 in
set_option maxHeartbeats 8000000 in
theorem f73_not (m : MsV) (h1 : oneM m = false) (hm : OkM m) (T : Tab) (Q : AOut → Heap → Prop) (hQ : Q (.ret (.agg (iM (bareM m)))) (rhR (rpCL (bareM m).reports))) (N : Nat) :
    abody Tryz.prog (ext (ext T 27 (freshT g15r)) 132 (flatT g74)) 0 N Tryz.f129 [.agg (msC m)] [] (fun out Hs => ∃ (cs : List AV) (y x : AV) (H1 : Heap), out = .ret (.agg (cs ++ [y])) ∧ lastA Hs cs y = ([x], H1) ∧ Q (.ret x) H1) := by
  have hbe : bareM m = { m with sig := [] } := by unfold bareM withSig; rw [h1]; rfl
  rw [hbe] at hQ
  clear hbe
  obtain ⟨kind, bal, slot, from_, to, index, count, req, other, data, sig, cert, votes, order, picks, reports⟩ := m
  rcases reports with _ | ⟨r0, rs⟩
  · conv => whnf
    refine ⟨⟨kind, bal, slot, from_, to, index, count, req, other, data, sig, cert, votes, order, picks, []⟩, rfl, hm, ?_⟩
    conv => whnf
    refine ⟨⟨kind, bal, slot, from_, to, index, count, req, other, data, sig, cert, votes, order, picks, []⟩, by kernel_rfl, ?_⟩
    rw [h1]
    conv => whnf
    refine ⟨i15 ⟨kind, bal, slot, from_, to, index, count, req, other, data, sig, cert, votes, order, picks, []⟩ (.slice (bsA data)) .zslice (.slice (inCL order)) (.slice (rqCL picks)), .zslice, .agg (iM ⟨kind, bal, slot, from_, to, index, count, req, other, data, [], cert, votes, order, picks, []⟩), rhR (rpCL []), by kernel_rfl, by kernel_rfl, ?_⟩
    refine Eq.mp ?_ hQ
    kernel_rfl
  · conv => whnf
    refine ⟨⟨kind, bal, slot, from_, to, index, count, req, other, data, sig, cert, votes, order, picks, (r0 :: rs)⟩, rfl, hm, ?_⟩
    conv => whnf
    refine ⟨⟨kind, bal, slot, from_, to, index, count, req, other, data, sig, cert, votes, order, picks, (r0 :: rs)⟩, by kernel_rfl, ?_⟩
    rw [h1]
    conv => whnf
    refine ⟨i15 ⟨kind, bal, slot, from_, to, index, count, req, other, data, sig, cert, votes, order, picks, (r0 :: rs)⟩ (.slice (bsA data)) .zslice (.slice (inCL order)) (.slice (rqCL picks)), .row 0, .agg (iM ⟨kind, bal, slot, from_, to, index, count, req, other, data, [], cert, votes, order, picks, (r0 :: rs)⟩), rhR (rpCL (r0 :: rs)), by kernel_rfl, by kernel_rfl, ?_⟩
    refine Eq.mp ?_ hQ
    kernel_rfl


set_option maxRecDepth 100000 in
theorem s73 {T : Tab} (hT : TGood Tryz.prog T) : SGood Tryz.prog 129 (freshT g73) := freshT_good g73_det fun args Q h => by
  unfold g73 at h
  split at h
  · obtain ⟨m, rfl, hm, hQ⟩ := h
    have t0 := ext_good hT (s15r hT)
    have t1 := ext_good t0 (s74 t0)
    rcases one_cases m with ⟨r, h1, h2, h3⟩ | h1
    · exact body_last t1 mixedT Tryz.func129 (entersOf Tryz.func129 (by kernel_rfl) rfl) 0 (f73_one m r h1 h2 h3 hm T Q hQ 0)
    · exact body_last t1 mixedT Tryz.func129 (entersOf Tryz.func129 (by kernel_rfl) rfl) 0 (f73_not m h1 hm T Q hQ 0)
  · exact h.elim
end Go.Abs

/-
catenaryref06.SealText is what it comes to.
-/
namespace Go.Abs
open Go Go.Proofs

def docB (m : MsV) : List Int := cond (encOE m == 0) (oS m 15).1 []

set_option maxRecDepth 100000 in
set_option maxHeartbeats 8000000 in
theorem f31_ok (m : MsV) (hm : OkM m) (hc : cM m ≤ 1073741824) (hp : (encOE (bareM m) == 0) = true → okP [docB (bareM m)]) (signer : Int) (T : Tab) (Q : AOut → Prop)
    (hQ : Q (.ret (.slice (bsA (cond (encOE (bareM m) == 0) (textK (replK signer) (domS m) [docB (bareM m)]) []))))) (N : Nat) :
    abody Tryz.prog (ext (ext (ext (ext (ext T 129 (freshT g73)) 69 (pureT g17)) 119 (flatT g120)) 131 (flatT g77)) 130 (pureT (txtG textK))) 0 N Tryz.f77 [.agg (msC m), .int .i64 signer] [] (fun out Hs => Q (frzO Hs out)) := by
  have hb := bare_ok hm
  have hbc := Nat.le_trans (bare_c m) hc
  have hd := domS_le m
  conv => whnf
  refine ⟨m, rfl, hm, ?_⟩
  generalize bareM m = m' at hQ hp hb hbc ⊢
  obtain ⟨kind, bal, slot, from_, to, index, count, req, other, data, sig, cert, votes, order, picks, reports⟩ := m'
  rcases reports with _ | ⟨r0, rs⟩
  · conv => whnf
    refine ⟨⟨kind, bal, slot, from_, to, index, count, req, other, data, sig, cert, votes, order, picks, []⟩, by kernel_rfl, hb, hbc, ?_⟩
    have hdef : docB ⟨kind, bal, slot, from_, to, index, count, req, other, data, sig, cert, votes, order, picks, []⟩ = cond (encOE ⟨kind, bal, slot, from_, to, index, count, req, other, data, sig, cert, votes, order, picks, []⟩ == 0) (oS ⟨kind, bal, slot, from_, to, index, count, req, other, data, sig, cert, votes, order, picks, []⟩ 15).1 [] := rfl
    rw [← hdef]
    generalize docB ⟨kind, bal, slot, from_, to, index, count, req, other, data, sig, cert, votes, order, picks, []⟩ = b at hQ hp ⊢
    generalize encOE ⟨kind, bal, slot, from_, to, index, count, req, other, data, sig, cert, votes, order, picks, []⟩ = e at hQ hp ⊢
    clear hb hbc hdef
    by_cases he : e = 0
    · subst he
      conv => whnf
      refine ⟨[5, 6], ?_⟩
      conv => whnf
      repeat (refine ⟨rfl, ?_⟩; conv => whnf)
      refine ⟨m, rfl, ?_⟩
      replace hQ : Q (.ret (.slice (bsA (textK (replK signer) (domS m) [b])))) := hQ
      conv => whnf
      repeat (refine ⟨rfl, ?_⟩; conv => whnf)
      repeat (first | (refine ⟨by (conv => whnf); exact ⟨rfl, rfl⟩, ?_⟩; conv => whnf) | (refine ⟨by (conv => whnf); exact ⟨m, rfl, rfl, rfl⟩, ?_⟩; conv => whnf) | (refine ⟨rfl, ?_⟩; conv => whnf))
      refine ⟨[b], by kernel_rfl, hp rfl, hd, ?_⟩
      generalize textK (replK signer) (domS m) [b] = t at hQ ⊢
      conv => whnf
      repeat (first | (refine ⟨by (conv => whnf); exact ⟨rfl, rfl⟩, ?_⟩; conv => whnf) | (refine ⟨by (conv => whnf); exact ⟨m, rfl, rfl, rfl⟩, ?_⟩; conv => whnf) | (refine ⟨rfl, ?_⟩; conv => whnf))
      refine Eq.mp ?_ hQ
      kernel_rfl
    · replace hQ : Q (.ret (.slice (bsA []))) := by rw [show (e == 0) = false from beq_eq_false_iff_ne.2 he] at hQ; exact hQ
      conv => whnf
      split
      · conv => whnf
        refine Eq.mp ?_ hQ
        kernel_rfl
      · rename_i h
        exact absurd (of_decide_eq_true (by simpa using h)) he
  · conv => whnf
    refine ⟨⟨kind, bal, slot, from_, to, index, count, req, other, data, sig, cert, votes, order, picks, (r0 :: rs)⟩, by kernel_rfl, hb, hbc, ?_⟩
    have hdef : docB ⟨kind, bal, slot, from_, to, index, count, req, other, data, sig, cert, votes, order, picks, (r0 :: rs)⟩ = cond (encOE ⟨kind, bal, slot, from_, to, index, count, req, other, data, sig, cert, votes, order, picks, (r0 :: rs)⟩ == 0) (oS ⟨kind, bal, slot, from_, to, index, count, req, other, data, sig, cert, votes, order, picks, (r0 :: rs)⟩ 15).1 [] := rfl
    rw [← hdef]
    generalize docB ⟨kind, bal, slot, from_, to, index, count, req, other, data, sig, cert, votes, order, picks, (r0 :: rs)⟩ = b at hQ hp ⊢
    generalize encOE ⟨kind, bal, slot, from_, to, index, count, req, other, data, sig, cert, votes, order, picks, (r0 :: rs)⟩ = e at hQ hp ⊢
    clear hb hbc hdef
    by_cases he : e = 0
    · subst he
      conv => whnf
      refine ⟨[5, 6], ?_⟩
      conv => whnf
      repeat (refine ⟨rfl, ?_⟩; conv => whnf)
      refine ⟨m, rfl, ?_⟩
      replace hQ : Q (.ret (.slice (bsA (textK (replK signer) (domS m) [b])))) := hQ
      conv => whnf
      repeat (refine ⟨rfl, ?_⟩; conv => whnf)
      repeat (first | (refine ⟨by (conv => whnf); exact ⟨rfl, rfl⟩, ?_⟩; conv => whnf) | (refine ⟨by (conv => whnf); exact ⟨m, rfl, rfl, rfl⟩, ?_⟩; conv => whnf) | (refine ⟨rfl, ?_⟩; conv => whnf))
      refine ⟨[b], by kernel_rfl, hp rfl, hd, ?_⟩
      generalize textK (replK signer) (domS m) [b] = t at hQ ⊢
      conv => whnf
      repeat (first | (refine ⟨by (conv => whnf); exact ⟨rfl, rfl⟩, ?_⟩; conv => whnf) | (refine ⟨by (conv => whnf); exact ⟨m, rfl, rfl, rfl⟩, ?_⟩; conv => whnf) | (refine ⟨rfl, ?_⟩; conv => whnf))
      refine Eq.mp ?_ hQ
      kernel_rfl
    · replace hQ : Q (.ret (.slice (bsA []))) := by rw [show (e == 0) = false from beq_eq_false_iff_ne.2 he] at hQ; exact hQ
      conv => whnf
      split
      · conv => whnf
        refine Eq.mp ?_ hQ
        kernel_rfl
      · rename_i h
        exact absurd (of_decide_eq_true (by simpa using h)) he

end Go.Abs

