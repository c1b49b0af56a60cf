/-
catenaryref05.CopyVotes is what it comes to.
-/
import Derived.Test.YtcjpbmdmomaibaaDoorAbt9
import Derived.Test.YtcjpbmdmomaibaaDoorAbt10
import Derived.Test.YtcjpbmdmomaibaaDoorAbt7
import Derived.Test.YtcjpbmdmomaibaaDoorAbt11
namespace Go.Abs
open Go Go.Proofs

theorem fits_lt {el : List AV} {sz bytes n : Nat} (h : el.length = sz) (hb : Nat.ble bytes 128 = true) (hn : n < 1099511627776) : FitsA [el] sz bytes n := by
  have hb := Nat.le_of_ble_eq_true hb
  refine fits_one h ?_ (by omega)
  have : (n + 1) * bytes ≤ 1099511627776 * 128 := Nat.mul_le_mul (by omega) hb
  omega
def rowV0 (l : List (List AV)) : AV := match l with | [] => .zslice | _ => .row 0
def rowH0 (e sz : Nat) (l : List (List AV)) : Heap := match l with | [] => [] | _ => [.row true e sz l]

def g43 : GSpec := fun args K => match args with
  | [.slice es] => ∃ l : List VtV, es = vtCL l ∧ okVL l ∧ K (.ret (.slice (vtCL l)))
  | _ => False
theorem g43_det (args : List AV) : Det (g43 args) := by
  unfold g43
  repeat' (first | exact Det.no | exact Det.at _ | refine Det.and ?_ | refine Det.ex fun _ => ?_ | refine Det.cond ?_ ?_ | split)

set_option maxRecDepth 100000 in
set_option maxHeartbeats 4000000 in
theorem f43_ok (l : List VtV) (hl : okVL l) (T : Tab) (Q : AOut → Prop) (hQ : Q (.ret (.slice (vtCL l)))) (N : Nat) (hN : l.length < N) :
    abody Tryd.prog T 0 N Tryd.f43 [.slice (vtCL l)] [] (fun out Hs => Q (frzO Hs out)) := by
  have hlen : (vtCL l).length = l.length := by simp [vtCL]
  have hl1 := hl.1
  conv => whnf
  refine aloop_at ?_ ?_ (aloop_inv (σ := Nat × List VtV) (fun s => ((sp 0 25 [(3, rowV0 (vtCL s.2)), (7, .slice (vtCL l)), (8, .int .i64 ((vtCL l).length : Nat)), (9, .int .i64 (s.1 : Nat))]), rowH0 106 2 (vtCL s.2)))
    (fun s => s.1 ≤ l.length ∧ s.2 = l.take s.1) (fun s => l.length - s.1) ?_ N (0, []) ⟨Nat.zero_le _, rfl⟩ (by dsimp only; omega))
  · kernel_rfl
  · kernel_rfl
  rintro ⟨i, acc⟩ ⟨i1, i2⟩ R hR
  dsimp only at i1 i2
  have hcl : (vtCL acc).length = i := by rw [i2]; simp [vtCL]; omega
  have hi1 : i < l.length → IntKind.i64.wrap ((i : Int) + 1) = ((i + 1 : Nat) : Int) := fun h => by rw [IntWalk.i64_in _ (by omega)]; omega
  rcases acc with _ | ⟨x, xs⟩
  all_goals
    conv => whnf
    split
    rotate_left
    · rename_i h3; have h3 : ¬ (i : Int) < (vtCL l).length := of_decide_eq_false h3
      rw [hlen] at h3
      rw [List.take_of_length_le (by omega)] at i2
      rw [← i2] at hQ
      conv => whnf
      refine Eq.mp ?_ hQ
      kernel_rfl
    rename_i h3; have h3 : (i : Int) < (vtCL l).length := of_decide_eq_true h3
    rw [hlen] at h3
    have h4 : i < l.length := by omega
    obtain ⟨v, hv⟩ : ∃ v, l[i]? = some v := ⟨l[i]'h4, List.getElem?_eq_getElem h4⟩
    have hva : (vtCL l)[i]? = some (vtC v) := by simp [vtCL, hv]
    have hok := hl.2 v (List.mem_of_getElem? hv)
    conv => whnf
    refine ⟨by omega, by rw [hlen]; omega, _, hva, by kernel_rfl, ?_⟩
    conv => whnf
    refine ⟨[6, 8, 9], ?_⟩
    conv => whnf
    refine ⟨rfl, ?_⟩
    conv => whnf
    refine ⟨fits_bs (by have := hok.2; omega), ?_⟩
    conv => whnf
    repeat (refine ⟨by (conv => whnf); exact ⟨rfl, rfl⟩, ?_⟩; conv => whnf)
    refine ⟨fits_at (ys' := [vtC v]) (by kernel_rfl) (fits_lt (by kernel_rfl) (by kernel_rfl) (Nat.lt_of_le_of_lt (Nat.le_of_eq hcl) (by omega))), ?_⟩
    conv => whnf
    repeat (refine ⟨by (conv => whnf); exact ⟨rfl, rfl⟩, ?_⟩; conv => whnf)
    first | refine R_at ?_ ?_ (hR (i + 1, (x :: xs) ++ [v]) ⟨h4, ?_⟩ (by dsimp only; omega)) | refine R_at ?_ ?_ (hR (i + 1, [v]) ⟨h4, ?_⟩ (by dsimp only; omega))
    · rw [← hi1 h4]; kernel_rfl
    · first | (show _ = rowH0 106 2 (vtCL ((x :: xs) ++ [v])); rw [show vtCL ((x :: xs) ++ [v]) = vtCL (x :: xs) ++ [vtC v] by simp [vtCL]]; kernel_rfl) | kernel_rfl
    · dsimp only
      rw [List.take_add_one, hv, ← i2]
      rfl

set_option maxRecDepth 100000 in
theorem s43 {T : Tab} (hT : TGood Tryd.prog T) : SGood Tryd.prog 43 (pureT g43) := pureT_good g43_det fun args Q h => by
  unfold g43 at h
  split at h
  · obtain ⟨l, rfl, hl, hQ⟩ := h
    exact body_pure hT mixedT Tryd.func43 (entersOf Tryd.func43 (by kernel_rfl) rfl) _ (f43_ok l hl T Q hQ _ (Nat.lt_succ_self _))
  · exact h.elim
end Go.Abs

/-
catenaryref05.SameReport of two like reports is true.
-/
namespace Go.Abs
open Go Go.Proofs

set_option maxRecDepth 100000 in
theorem eq2_25 : Eq2 Tryd.prog 25 := ⟨by kernel_rfl, by kernel_rfl, _, _, .i64, .i64, Tryd.underlying25, by decide, by decide, rfl, rfl, by kernel_rfl, by kernel_rfl⟩
theorem rqEq_self (r : RqV) : rqEq r r = true := by simp [rqEq]
theorem vtsEq_self : ∀ l : List VtV, vtsEq l l = true
  | [] => rfl
  | x :: l => by simp [vtsEq, vtEq, vtsEq_self l]

def g57 : GSpec := fun args K => match args with
  | [.agg cs, .agg ds] => ∃ r : RpV, cs = rpC r ∧ ds = rpC r ∧ okRp r ∧ K (.ret (.bool true))
  | _ => False
theorem g57_det (args : List AV) : Det (g57 args) := by
  unfold g57
  repeat' (first | exact Det.no | exact Det.at _ | refine Det.and ?_ | refine Det.ex fun _ => ?_ | refine Det.cond ?_ ?_ | split)
theorem g57_flat (args : List AV) (o : AOut) (h : g57 args (· = o)) : flatO o = true := by
  unfold g57 at h
  split at h
  · obtain ⟨_, _, _, _, rfl⟩ := h; rfl
  · exact h.elim
def T57 (T : Tab) : Tab := ext (ext (ext T 18 (flatT g18)) 25 (flatT g25)) 56 (flatT g56)

theorem bal_self (b : BalV) : (!((b.view == b.view) && (b.turn == b.turn))) = false := by simp
theorem ne_self (n : Int) : (n != n) = false := by simp
theorem dec_self {α : Type} [DecidableEq α] (a : α) : (!decide (a = a)) = false := by simp

set_option maxRecDepth 100000 in
set_option maxHeartbeats 8000000 in
theorem f57_ok (r : RpV) (hr : okRp r) (T : Tab) (Q : AOut → Prop) (hQ : Q (.ret (.bool true))) (N : Nat) (hN : r.preps.length < N) :
    abody Tryd.prog (T57 T) 0 N Tryd.f57 [.agg (rpC r), .agg (rpC r)] [] (fun out Hs => Q (frzO Hs out)) := by
  obtain ⟨hd, hst, hpr, hsg⟩ := hr
  have lp : (prCL r.preps).length = r.preps.length := by simp [prCL]
  conv => whnf
  refine ⟨eq2_25, rfl, rfl, ?_⟩
  conv => whnf
  rw [bal_self]
  conv => whnf
  rw [ne_self]
  conv => whnf
  rw [ne_self]
  conv => whnf
  refine ⟨r.digest, r.digest, rfl, rfl, hd.1, hd.1, ?_⟩
  conv => whnf
  rw [dec_self]
  conv => whnf
  refine ⟨r.stable, r.stable, rfl, rfl, hst, hst, ?_⟩
  rw [vtsEq_self]
  conv => whnf
  rw [ne_self]
  conv => whnf
  refine ⟨r.sig, r.sig, rfl, rfl, hsg.1, hsg.1, ?_⟩
  conv => whnf
  rw [dec_self]
  conv => whnf
  refine aloop_at ?_ ?_ (aloop_inv (σ := Nat) (fun i => ((sp 0 102 [(3, .ptr 0 0), (61, .slice (prCL r.preps)), (62, .int .i64 ((prCL r.preps).length : Nat)), (63, .int .i64 (i : Nat))]), [.var (rpC r)]))
    (fun i => i ≤ r.preps.length) (fun i => r.preps.length - i) ?_ N 0 (Nat.zero_le _) (by omega))
  · kernel_rfl
  · kernel_rfl
  rintro i i1 R hR
  conv => whnf
  split
  rotate_left
  · refine Eq.mp ?_ hQ
    kernel_rfl
  rename_i h2; have h2 : (i : Int) < (prCL r.preps).length := of_decide_eq_true h2
  rw [lp] at h2
  obtain ⟨x, hx⟩ : ∃ x, r.preps[i]? = some x := ⟨r.preps[i]'(by omega), List.getElem?_eq_getElem (by omega)⟩
  have hxa : (prCL r.preps)[i]? = some (prC x) := by simp [prCL, hx]
  obtain ⟨ok1, ok2⟩ := hpr.2 x (List.mem_of_getElem? hx)
  have hi1 : IntKind.i64.wrap ((i : Int) + 1) = ((i + 1 : Nat) : Int) := by rw [IntWalk.i64_in _ (by have := hpr.1; omega)]; omega
  conv => whnf
  refine ⟨by omega, by rw [lp]; omega, _, hxa, by kernel_rfl, ?_⟩
  conv => whnf
  refine ⟨by omega, by rw [lp]; omega, _, hxa, by kernel_rfl, ?_⟩
  conv => whnf
  rw [ne_self]
  conv => whnf
  refine ⟨eq2_25, rfl, rfl, ?_⟩
  rw [bal_self]
  conv => whnf
  refine ⟨x.req, x.req, rfl, rfl, ok1, ok1, ?_⟩
  rw [rqEq_self]
  conv => whnf
  refine ⟨x.cert, x.cert, rfl, rfl, ok2, ok2, ?_⟩
  rw [vtsEq_self]
  conv => whnf
  refine R_at ?_ ?_ (hR (i + 1) (by omega) (by omega))
  · rw [← hi1]; kernel_rfl
  · kernel_rfl

set_option maxRecDepth 100000 in
theorem s57 {T : Tab} (hT : TGood Tryd.prog T) : SGood Tryd.prog 57 (flatT g57) := flatT_good g57_det g57_flat fun args Q h => by
  unfold g57 at h
  split at h
  · obtain ⟨r, rfl, rfl, hr, hQ⟩ := h
    have t1 := ext_good hT (s18 hT)
    have t2 := ext_good t1 (s25 t1)
    exact body_pure (ext_good t2 (s56 t2)) mixedT Tryd.func57 (entersOf Tryd.func57 (by kernel_rfl) rfl) _ (f57_ok r hr T Q hQ _ (Nat.lt_succ_self _))
  · exact h.elim
end Go.Abs

/-
catenaryref05.CopyReport is what it comes to.
-/
namespace Go.Abs
open Go Go.Proofs

def rowV4 (l : List (List AV)) : AV := match l with | [] => .zslice | _ => .row 4
def g44 : GSpec := fun args K => match args with
  | [.agg cs] => ∃ r : RpV, cs = rpC r ∧ okRp r ∧ K (.ret (.agg (rpC r)))
  | _ => False
theorem g44_det (args : List AV) : Det (g44 args) := by
  unfold g44
  repeat' (first | exact Det.no | exact Det.at _ | refine Det.and ?_ | refine Det.ex fun _ => ?_ | refine Det.cond ?_ ?_ | split)
def zRp : List AV := [.int .i64 0, .int .i64 0, .int .i64 0, .int .i64 0, .zslice, .zslice, .zslice, .zslice]
def T44 (T : Tab) : Tab := ext (ext T 23 (pureT g23)) 43 (pureT g43)

set_option maxRecDepth 100000 in
set_option maxHeartbeats 8000000 in
theorem f44_ok (r : RpV) (hr : okRp r) (T : Tab) (Q : AOut → Prop) (hQ : Q (.ret (.agg (rpC r)))) (N : Nat) (hN : r.preps.length < N) :
    abody Tryd.prog (T44 T) 0 N Tryd.f44 [.agg (rpC r)] [] (fun out Hs => Q (frzO Hs out)) := by
  obtain ⟨hd, hst, hpr, hsg⟩ := hr
  have lp : (prCL r.preps).length = r.preps.length := by simp [prCL]
  have hp1 := hpr.1
  conv => whnf
  refine ⟨fits_bs (by have := hd.2; omega), ?_⟩
  conv => whnf
  refine ⟨fits_bs (by have := hsg.2; omega), ?_⟩
  conv => whnf
  refine ⟨r.stable, rfl, hst, ?_⟩
  conv => whnf
  refine aloop_at ?_ ?_ (aloop_inv (σ := Nat × List PrV) (fun s => ((sp 0 46 [(1, .ptr 0 0), (2, .ptr 3 0), (3, rowV4 (prCL s.2)), (22, .slice (prCL r.preps)), (23, .int .i64 ((prCL r.preps).length : Nat)), (24, .int .i64 (s.1 : Nat))]),
      [.var [.int .i64 r.bal.view, .int .i64 r.bal.turn, .int .i64 r.replica, .int .i64 r.low, .row 1, .slice (vtCL r.stable), .slice (prCL r.preps), .row 2], .row true 5 1 (bsA r.digest), .row true 5 1 (bsA r.sig), .var zRp] ++ rowH0 132 8 (prCL s.2)))
    (fun s => s.1 ≤ r.preps.length ∧ s.2 = r.preps.take s.1) (fun s => r.preps.length - s.1) ?_ N (0, []) ⟨Nat.zero_le _, rfl⟩ (by dsimp only; omega))
  · kernel_rfl
  · kernel_rfl
  rintro ⟨i, acc⟩ ⟨i1, i2⟩ R hR
  dsimp only at i1 i2
  have hcl : (prCL acc).length = i := by rw [i2]; simp [prCL]; omega
  have hi1 : i < r.preps.length → IntKind.i64.wrap ((i : Int) + 1) = ((i + 1 : Nat) : Int) := fun h => by rw [IntWalk.i64_in _ (by omega)]; omega
  rcases acc with _ | ⟨x, xs⟩
  all_goals
    conv => whnf
    split
    rotate_left
    · rename_i h3; have h3 : ¬ (i : Int) < (prCL r.preps).length := of_decide_eq_false h3
      rw [lp] at h3
      rw [List.take_of_length_le (by omega)] at i2
      have hQ' : Q (.ret (.agg [.int .i64 r.bal.view, .int .i64 r.bal.turn, .int .i64 r.replica, .int .i64 r.low, .slice (bsA r.digest), .slice (vtCL r.stable), .slice (prCL r.preps), .slice (bsA r.sig)])) := hQ
      rw [← i2] at hQ'
      conv => whnf
      refine Eq.mp ?_ hQ'
      kernel_rfl
    rename_i h3; have h3 : (i : Int) < (prCL r.preps).length := of_decide_eq_true h3
    rw [lp] at h3
    have h4 : i < r.preps.length := by omega
    obtain ⟨v, hv⟩ : ∃ v, r.preps[i]? = some v := ⟨r.preps[i]'h4, List.getElem?_eq_getElem h4⟩
    have hva : (prCL r.preps)[i]? = some (prC v) := by simp [prCL, hv]
    obtain ⟨ok1, ok2⟩ := hpr.2 v (List.mem_of_getElem? hv)
    conv => whnf
    refine ⟨by omega, by rw [lp]; omega, _, hva, by kernel_rfl, ?_⟩
    conv => whnf
    refine ⟨[12, 13], ?_⟩
    conv => whnf
    refine ⟨v.req, rfl, ok1, ?_⟩
    conv => whnf
    refine ⟨rfl, ?_⟩
    conv => whnf
    refine ⟨v.cert, rfl, ok2, ?_⟩
    conv => whnf
    refine ⟨rfl, ?_⟩
    conv => whnf
    repeat (refine ⟨by (conv => whnf); exact ⟨rfl, rfl⟩, ?_⟩; conv => whnf)
    refine ⟨fits_at (ys' := [prC v]) (by kernel_rfl) (fits_lt (by kernel_rfl) (by kernel_rfl) (Nat.lt_of_le_of_lt (Nat.le_of_eq hcl) (by omega))), ?_⟩
    conv => whnf
    repeat (refine ⟨by (conv => whnf); exact ⟨rfl, rfl⟩, ?_⟩; conv => whnf)
    first | refine R_at ?_ ?_ (hR (i + 1, (x :: xs) ++ [v]) ⟨h4, ?_⟩ (by dsimp only; omega)) | refine R_at ?_ ?_ (hR (i + 1, [v]) ⟨h4, ?_⟩ (by dsimp only; omega))
    · rw [← hi1 h4]; kernel_rfl
    · first | (show _ = _ ++ rowH0 132 8 (prCL ((x :: xs) ++ [v])); rw [show prCL ((x :: xs) ++ [v]) = prCL (x :: xs) ++ [prC v] by simp [prCL]]; kernel_rfl) | kernel_rfl
    · dsimp only
      rw [List.take_add_one, hv, ← i2]
      rfl

set_option maxRecDepth 100000 in
theorem s44 {T : Tab} (hT : TGood Tryd.prog T) : SGood Tryd.prog 44 (pureT g44) := pureT_good g44_det fun args Q h => by
  unfold g44 at h
  split at h
  · obtain ⟨r, rfl, hr, hQ⟩ := h
    have t1 := ext_good hT (s23 hT)
    exact body_pure (ext_good t1 (s43 t1)) mixedT Tryd.func44 (entersOf Tryd.func44 (by kernel_rfl) rfl) _ (f44_ok r hr T Q hQ _ (Nat.lt_succ_self _))
  · exact h.elim
end Go.Abs

/-
catenaryref05.Copy is what it comes to.
-/
namespace Go.Abs
open Go Go.Proofs

def g15 : GSpec := fun args K => match args with
  | [.agg cs] => ∃ m : MsV, cs = msC m ∧ OkM m ∧ K (.ret (.agg (msC m)))
  | _ => False
theorem g15_det (args : List AV) : Det (g15 args) := by
  unfold g15
  repeat' (first | exact Det.no | exact Det.at _ | refine Det.and ?_ | refine Det.ex fun _ => ?_ | refine Det.cond ?_ ?_ | split)
theorem fits_in {l : List Int} (h : l.length ≤ 1099511627776) : FitsA (inCL l) 1 8 0 :=
  ⟨fun x hx => by obtain ⟨_, _, rfl⟩ := List.mem_map.1 hx; rfl, by simp [inCL]; omega, by simp [inCL]; omega⟩
def T15 (T : Tab) : Tab := ext (ext (ext T 23 (pureT g23)) 43 (pureT g43)) 44 (pureT g44)
/-- The copy's cells: its own rows. -/
def c15 (m : MsV) (p : AV) : List AV := [.int .i64 m.kind, .int .i64 m.bal.view, .int .i64 m.bal.turn, .int .i64 m.slot, .int .i64 m.from_, .int .i64 m.to, .int .i64 m.index, .int .i64 m.count,
  .int .i64 m.req.client, .int .i64 m.req.stamp, .slice (bsA m.req.op), .slice (bsA m.req.sig), .int .i64 m.other.client, .int .i64 m.other.stamp, .slice (bsA m.other.op), .slice (bsA m.other.sig),
  .row 1, .row 2, .slice (vtCL m.cert), .slice (vtCL m.votes), .row 3, p, .slice (rpCL m.reports)]
def h15 (m : MsV) : Heap := [.row true 5 1 (bsA m.data), .row true 5 1 (bsA m.sig), .row true 3 1 (inCL m.order)]
def m15 (m : MsV) (p r : List (List AV)) : List AV := [.int .i64 m.kind, .int .i64 m.bal.view, .int .i64 m.bal.turn, .int .i64 m.slot, .int .i64 m.from_, .int .i64 m.to, .int .i64 m.index, .int .i64 m.count,
  .int .i64 m.req.client, .int .i64 m.req.stamp, .slice (bsA m.req.op), .slice (bsA m.req.sig), .int .i64 m.other.client, .int .i64 m.other.stamp, .slice (bsA m.other.op), .slice (bsA m.other.sig),
  .slice (bsA m.data), .slice (bsA m.sig), .slice (vtCL m.cert), .slice (vtCL m.votes), .slice (inCL m.order), .slice p, .slice r]
def rowV5 (l : List (List AV)) : AV := match l with | [] => .zslice | _ => .row 5
def rowV6 (l : List (List AV)) : AV := match l with | [] => .zslice | _ => .row 6

set_option maxRecDepth 100000 in
set_option maxHeartbeats 16000000 in
theorem f15_ok (m : MsV) (hm : OkM m) (T : Tab) (Q : AOut → Prop) (hQ : Q (.ret (.agg (msC m)))) (N : Nat) (hN : m.picks.length < N) (hN2 : m.reports.length < N) :
    abody Tryd.prog (T15 T) 0 N Tryd.f15 [.agg (msC m)] [] (fun out Hs => Q (frzO Hs out)) := by
  obtain ⟨o1, o2, o3, o4, o5, o6, o7, o8, o9⟩ := hm
  have hp1 := o8.1
  have hr1 := o9.1
  have l_picks : (rqCL m.picks).length = m.picks.length := by simp [rqCL]
  have l_reports : (rpCL m.reports).length = m.reports.length := by simp [rpCL]
  conv => whnf
  refine ⟨m.req, rfl, o1, ?_⟩
  conv => whnf
  refine ⟨m.other, rfl, o2, ?_⟩
  conv => whnf
  refine ⟨fits_bs (by have := o3.2; omega), ?_⟩
  conv => whnf
  refine ⟨fits_bs (by have := o4.2; omega), ?_⟩
  conv => whnf
  refine ⟨m.cert, rfl, o5, ?_⟩
  conv => whnf
  refine ⟨m.votes, rfl, o6, ?_⟩
  conv => whnf
  refine ⟨fits_in o7, ?_⟩
  conv => whnf
  refine aloop_at ?_ ?_ (aloop_inv (σ := Nat × List RqV) (fun s => (sp 0 73 [(1, .ptr 0 0), (2, .ptr 4 0), (3, rowV5 (rqCL s.2)), (42, .slice (rqCL m.picks)), (43, .int .i64 ((rqCL m.picks).length : Nat)), (44, .int .i64 (s.1 : Nat))], [.var (c15 m (.slice (rqCL m.picks)))] ++ h15 m ++ [.var zC] ++ rowH0 28 4 (rqCL s.2)))
    (fun s => s.1 ≤ m.picks.length ∧ s.2 = m.picks.take s.1) (fun s => m.picks.length - s.1) ?_ N (0, []) ⟨Nat.zero_le _, rfl⟩ (by dsimp only; omega))
  · kernel_rfl
  · kernel_rfl
  rintro ⟨i, acc⟩ ⟨i1, i2⟩ R hR
  dsimp only at i1 i2
  have hcl : (rqCL acc).length = i := by rw [i2]; simp [rqCL]; omega
  have hi1 : i < m.picks.length → IntKind.i64.wrap ((i : Int) + 1) = ((i + 1 : Nat) : Int) := fun h => by rw [IntWalk.i64_in _ (by omega)]; omega
  rcases acc with _ | ⟨x, xs⟩
  · conv => whnf
    split
    · rename_i h3; have h3 : (i : Int) < (rqCL m.picks).length := of_decide_eq_true h3
      rw [l_picks] at h3
      have h4 : i < m.picks.length := by omega
      obtain ⟨v, hv⟩ : ∃ v, m.picks[i]? = some v := ⟨m.picks[i]'h4, List.getElem?_eq_getElem h4⟩
      have hva : (rqCL m.picks)[i]? = some (rqC v) := by simp [rqCL, hv]
      have hok := o8.2 v (List.mem_of_getElem? hv)
      conv => whnf
      refine ⟨by omega, by rw [l_picks]; omega, _, hva, by kernel_rfl, ?_⟩
      conv => whnf
      refine ⟨v, rfl, hok, ?_⟩
      conv => whnf
      refine ⟨fits_at (ys' := [rqC v]) (by kernel_rfl) (fits_lt (by kernel_rfl) (by kernel_rfl) (Nat.lt_of_le_of_lt (Nat.le_of_eq hcl) (by omega))), ?_⟩
      conv => whnf
      refine R_at ?_ ?_ (hR (i + 1, [v]) ⟨h4, ?_⟩ (by dsimp only; omega))
      · rw [← hi1 h4]; kernel_rfl
      · kernel_rfl
      · dsimp only
        rw [List.take_add_one, hv, ← i2]
        rfl
    · rename_i h3; have h3 : ¬ (i : Int) < (rqCL m.picks).length := of_decide_eq_false h3
      rw [l_picks] at h3
      rw [List.take_of_length_le (by omega)] at i2
      conv => whnf
      clear hR R
      have hpk := i2
      clear i1 i2 hcl hi1
      refine aloop_at ?_ ?_ (aloop_inv (σ := Nat × List RpV) (fun s => (sp 0 73 [(1, .ptr 0 0), (2, .ptr 4 0), (6, rowV5 (rpCL s.2)), (58, .slice (rpCL m.reports)), (59, .int .i64 ((rpCL m.reports).length : Nat)), (60, .int .i64 (s.1 : Nat))], [.var (c15 m .zslice)] ++ h15 m ++ rowH0 28 4 (rqCL []) ++ [.var zC] ++ rowH0 70 8 (rpCL s.2)))
        (fun s => s.1 ≤ m.reports.length ∧ s.2 = m.reports.take s.1) (fun s => m.reports.length - s.1) ?_ N (0, []) ⟨Nat.zero_le _, rfl⟩ (by dsimp only; omega))
      · kernel_rfl
      · kernel_rfl
      rintro ⟨i, acc⟩ ⟨i1, i2⟩ R hR
      dsimp only at i1 i2
      have hcl : (rpCL acc).length = i := by rw [i2]; simp [rpCL]; omega
      have hi1 : i < m.reports.length → IntKind.i64.wrap ((i : Int) + 1) = ((i + 1 : Nat) : Int) := fun h => by rw [IntWalk.i64_in _ (by omega)]; omega
      rcases acc with _ | ⟨y, ys⟩
      · conv => whnf
        split
        · rename_i h3; have h3 : (i : Int) < (rpCL m.reports).length := of_decide_eq_true h3
          rw [l_reports] at h3
          have h4 : i < m.reports.length := by omega
          obtain ⟨v, hv⟩ : ∃ v, m.reports[i]? = some v := ⟨m.reports[i]'h4, List.getElem?_eq_getElem h4⟩
          have hva : (rpCL m.reports)[i]? = some (rpC v) := by simp [rpCL, hv]
          have hok := o9.2 v (List.mem_of_getElem? hv)
          conv => whnf
          refine ⟨by omega, by rw [l_reports]; omega, _, hva, by kernel_rfl, ?_⟩
          conv => whnf
          refine ⟨v, rfl, hok, ?_⟩
          conv => whnf
          refine ⟨fits_at (ys' := [rpC v]) (by kernel_rfl) (fits_lt (by kernel_rfl) (by kernel_rfl) (Nat.lt_of_le_of_lt (Nat.le_of_eq hcl) (by omega))), ?_⟩
          conv => whnf
          refine R_at ?_ ?_ (hR (i + 1, [v]) ⟨h4, ?_⟩ (by dsimp only; omega))
          · rw [← hi1 h4]; kernel_rfl
          · kernel_rfl
          · dsimp only
            rw [List.take_add_one, hv, ← i2]
            rfl
        · rename_i h3; have h3 : ¬ (i : Int) < (rpCL m.reports).length := of_decide_eq_false h3
          rw [l_reports] at h3
          rw [List.take_of_length_le (by omega)] at i2
          conv => whnf
          clear hR R
          have hQ' : Q (.ret (.agg (m15 m (rqCL m.picks) (rpCL m.reports)))) := hQ
          rw [← i2, ← hpk] at hQ'
          refine Eq.mp ?_ hQ'
          kernel_rfl
      · conv => whnf
        split
        · rename_i h3; have h3 : (i : Int) < (rpCL m.reports).length := of_decide_eq_true h3
          rw [l_reports] at h3
          have h4 : i < m.reports.length := by omega
          obtain ⟨v, hv⟩ : ∃ v, m.reports[i]? = some v := ⟨m.reports[i]'h4, List.getElem?_eq_getElem h4⟩
          have hva : (rpCL m.reports)[i]? = some (rpC v) := by simp [rpCL, hv]
          have hok := o9.2 v (List.mem_of_getElem? hv)
          conv => whnf
          refine ⟨by omega, by rw [l_reports]; omega, _, hva, by kernel_rfl, ?_⟩
          conv => whnf
          refine ⟨v, rfl, hok, ?_⟩
          conv => whnf
          refine ⟨fits_at (ys' := [rpC v]) (by kernel_rfl) (fits_lt (by kernel_rfl) (by kernel_rfl) (Nat.lt_of_le_of_lt (Nat.le_of_eq hcl) (by omega))), ?_⟩
          conv => whnf
          refine R_at ?_ ?_ (hR (i + 1, ((y :: ys) ++ [v])) ⟨h4, ?_⟩ (by dsimp only; omega))
          · rw [← hi1 h4]; kernel_rfl
          · show _ = _ ++ rowH0 70 8 (rpCL ((y :: ys) ++ [v]))
            rw [show rpCL ((y :: ys) ++ [v]) = rpCL (y :: ys) ++ [rpC v] by simp [rpCL]]
            kernel_rfl
          · dsimp only
            rw [List.take_add_one, hv, ← i2]
            rfl
        · rename_i h3; have h3 : ¬ (i : Int) < (rpCL m.reports).length := of_decide_eq_false h3
          rw [l_reports] at h3
          rw [List.take_of_length_le (by omega)] at i2
          conv => whnf
          clear hR R
          have hQ' : Q (.ret (.agg (m15 m (rqCL m.picks) (rpCL m.reports)))) := hQ
          rw [← i2, ← hpk] at hQ'
          refine Eq.mp ?_ hQ'
          kernel_rfl
  · conv => whnf
    split
    · rename_i h3; have h3 : (i : Int) < (rqCL m.picks).length := of_decide_eq_true h3
      rw [l_picks] at h3
      have h4 : i < m.picks.length := by omega
      obtain ⟨v, hv⟩ : ∃ v, m.picks[i]? = some v := ⟨m.picks[i]'h4, List.getElem?_eq_getElem h4⟩
      have hva : (rqCL m.picks)[i]? = some (rqC v) := by simp [rqCL, hv]
      have hok := o8.2 v (List.mem_of_getElem? hv)
      conv => whnf
      refine ⟨by omega, by rw [l_picks]; omega, _, hva, by kernel_rfl, ?_⟩
      conv => whnf
      refine ⟨v, rfl, hok, ?_⟩
      conv => whnf
      refine ⟨fits_at (ys' := [rqC v]) (by kernel_rfl) (fits_lt (by kernel_rfl) (by kernel_rfl) (Nat.lt_of_le_of_lt (Nat.le_of_eq hcl) (by omega))), ?_⟩
      conv => whnf
      refine R_at ?_ ?_ (hR (i + 1, ((x :: xs) ++ [v])) ⟨h4, ?_⟩ (by dsimp only; omega))
      · rw [← hi1 h4]; kernel_rfl
      · show _ = _ ++ rowH0 28 4 (rqCL ((x :: xs) ++ [v]))
        rw [show rqCL ((x :: xs) ++ [v]) = rqCL (x :: xs) ++ [rqC v] by simp [rqCL]]
        kernel_rfl
      · dsimp only
        rw [List.take_add_one, hv, ← i2]
        rfl
    · rename_i h3; have h3 : ¬ (i : Int) < (rqCL m.picks).length := of_decide_eq_false h3
      rw [l_picks] at h3
      rw [List.take_of_length_le (by omega)] at i2
      conv => whnf
      clear hR R
      have hpk := i2
      clear i1 i2 hcl hi1
      refine aloop_at ?_ ?_ (aloop_inv (σ := Nat × List RpV) (fun s => (sp 0 73 [(1, .ptr 0 0), (2, .ptr 5 0), (6, rowV6 (rpCL s.2)), (58, .slice (rpCL m.reports)), (59, .int .i64 ((rpCL m.reports).length : Nat)), (60, .int .i64 (s.1 : Nat))], [.var (c15 m (.row 4))] ++ h15 m ++ rowH0 28 4 (rqCL (x :: xs)) ++ [.var zC] ++ rowH0 70 8 (rpCL s.2)))
        (fun s => s.1 ≤ m.reports.length ∧ s.2 = m.reports.take s.1) (fun s => m.reports.length - s.1) ?_ N (0, []) ⟨Nat.zero_le _, rfl⟩ (by dsimp only; omega))
      · kernel_rfl
      · kernel_rfl
      rintro ⟨i, acc⟩ ⟨i1, i2⟩ R hR
      dsimp only at i1 i2
      have hcl : (rpCL acc).length = i := by rw [i2]; simp [rpCL]; omega
      have hi1 : i < m.reports.length → IntKind.i64.wrap ((i : Int) + 1) = ((i + 1 : Nat) : Int) := fun h => by rw [IntWalk.i64_in _ (by omega)]; omega
      rcases acc with _ | ⟨y, ys⟩
      · conv => whnf
        split
        · rename_i h3; have h3 : (i : Int) < (rpCL m.reports).length := of_decide_eq_true h3
          rw [l_reports] at h3
          have h4 : i < m.reports.length := by omega
          obtain ⟨v, hv⟩ : ∃ v, m.reports[i]? = some v := ⟨m.reports[i]'h4, List.getElem?_eq_getElem h4⟩
          have hva : (rpCL m.reports)[i]? = some (rpC v) := by simp [rpCL, hv]
          have hok := o9.2 v (List.mem_of_getElem? hv)
          conv => whnf
          refine ⟨by omega, by rw [l_reports]; omega, _, hva, by kernel_rfl, ?_⟩
          conv => whnf
          refine ⟨v, rfl, hok, ?_⟩
          conv => whnf
          refine ⟨fits_at (ys' := [rpC v]) (by kernel_rfl) (fits_lt (by kernel_rfl) (by kernel_rfl) (Nat.lt_of_le_of_lt (Nat.le_of_eq hcl) (by omega))), ?_⟩
          conv => whnf
          refine R_at ?_ ?_ (hR (i + 1, [v]) ⟨h4, ?_⟩ (by dsimp only; omega))
          · rw [← hi1 h4]; kernel_rfl
          · kernel_rfl
          · dsimp only
            rw [List.take_add_one, hv, ← i2]
            rfl
        · rename_i h3; have h3 : ¬ (i : Int) < (rpCL m.reports).length := of_decide_eq_false h3
          rw [l_reports] at h3
          rw [List.take_of_length_le (by omega)] at i2
          conv => whnf
          clear hR R
          have hQ' : Q (.ret (.agg (m15 m (rqCL m.picks) (rpCL m.reports)))) := hQ
          rw [← i2, ← hpk] at hQ'
          refine Eq.mp ?_ hQ'
          kernel_rfl
      · conv => whnf
        split
        · rename_i h3; have h3 : (i : Int) < (rpCL m.reports).length := of_decide_eq_true h3
          rw [l_reports] at h3
          have h4 : i < m.reports.length := by omega
          obtain ⟨v, hv⟩ : ∃ v, m.reports[i]? = some v := ⟨m.reports[i]'h4, List.getElem?_eq_getElem h4⟩
          have hva : (rpCL m.reports)[i]? = some (rpC v) := by simp [rpCL, hv]
          have hok := o9.2 v (List.mem_of_getElem? hv)
          conv => whnf
          refine ⟨by omega, by rw [l_reports]; omega, _, hva, by kernel_rfl, ?_⟩
          conv => whnf
          refine ⟨v, rfl, hok, ?_⟩
          conv => whnf
          refine ⟨fits_at (ys' := [rpC v]) (by kernel_rfl) (fits_lt (by kernel_rfl) (by kernel_rfl) (Nat.lt_of_le_of_lt (Nat.le_of_eq hcl) (by omega))), ?_⟩
          conv => whnf
          refine R_at ?_ ?_ (hR (i + 1, ((y :: ys) ++ [v])) ⟨h4, ?_⟩ (by dsimp only; omega))
          · rw [← hi1 h4]; kernel_rfl
          · show _ = _ ++ rowH0 70 8 (rpCL ((y :: ys) ++ [v]))
            rw [show rpCL ((y :: ys) ++ [v]) = rpCL (y :: ys) ++ [rpC v] by simp [rpCL]]
            kernel_rfl
          · dsimp only
            rw [List.take_add_one, hv, ← i2]
            rfl
        · rename_i h3; have h3 : ¬ (i : Int) < (rpCL m.reports).length := of_decide_eq_false h3
          rw [l_reports] at h3
          rw [List.take_of_length_le (by omega)] at i2
          conv => whnf
          clear hR R
          have hQ' : Q (.ret (.agg (m15 m (rqCL m.picks) (rpCL m.reports)))) := hQ
          rw [← i2, ← hpk] at hQ'
          refine Eq.mp ?_ hQ'
          kernel_rfl

set_option maxRecDepth 100000 in
theorem s15 {T : Tab} (hT : TGood Tryd.prog T) : SGood Tryd.prog 15 (pureT g15) := pureT_good g15_det fun args Q h => by
  unfold g15 at h
  split at h
  · obtain ⟨m, rfl, hm, hQ⟩ := h
    have t1 := ext_good hT (s23 hT)
    have t2 := ext_good t1 (s43 t1)
    exact body_pure (ext_good t2 (s44 t2)) mixedT Tryd.func15 (entersOf Tryd.func15 (by kernel_rfl) rfl) (m.picks.length + m.reports.length + 1) (f15_ok m hm T Q hQ _ (by omega) (by omega))
  · exact h.elim
end Go.Abs

/-
catenaryref05.Same of two like messages is true.
-/
namespace Go.Abs
open Go Go.Proofs

def g19 : GSpec := fun args K => match args with
  | [.agg cs, .agg ds] => ∃ m : MsV, cs = msC m ∧ ds = msC m ∧ OkM m ∧ K (.ret (.bool true))
  | _ => False
theorem g19_det (args : List AV) : Det (g19 args) := by
  unfold g19
  repeat' (first | exact Det.no | exact Det.at _ | refine Det.and ?_ | refine Det.ex fun _ => ?_ | refine Det.cond ?_ ?_ | split)
theorem g19_flat (args : List AV) (o : AOut) (h : g19 args (· = o)) : flatO o = true := by
  unfold g19 at h
  split at h
  · obtain ⟨_, _, _, _, rfl⟩ := h; rfl
  · exact h.elim
def T19 (T : Tab) : Tab := ext (ext (ext (ext T 18 (flatT g18)) 25 (flatT g25)) 56 (flatT g56)) 57 (flatT g57)

set_option maxRecDepth 100000 in
set_option maxHeartbeats 16000000 in
theorem f19_ok (m : MsV) (hm : OkM m) (T : Tab) (Q : AOut → Prop) (hQ : Q (.ret (.bool true))) (N : Nat) (hN : m.order.length < N) (hN2 : m.picks.length < N) (hN3 : m.reports.length < N) :
    abody Tryd.prog (T19 T) 0 N Tryd.f19 [.agg (msC m), .agg (msC m)] [] (fun out Hs => Q (frzO Hs out)) := by
  obtain ⟨o1, o2, o3, o4, o5, o6, o7, o8, o9⟩ := hm
  conv => whnf
  rw [ne_self]
  conv => whnf
  refine ⟨eq2_25, rfl, rfl, ?_⟩
  rw [bal_self]
  conv => whnf
  rw [ne_self]
  conv => whnf
  rw [ne_self]
  conv => whnf
  rw [ne_self]
  conv => whnf
  rw [ne_self]
  conv => whnf
  rw [ne_self]
  conv => whnf
  refine ⟨m.req, m.req, rfl, rfl, o1, o1, ?_⟩
  rw [rqEq_self]
  conv => whnf
  refine ⟨m.other, m.other, rfl, rfl, o2, o2, ?_⟩
  rw [rqEq_self]
  conv => whnf
  refine ⟨m.data, m.data, rfl, rfl, o3.1, o3.1, ?_⟩
  rw [show decide (m.data = m.data) = true by simp]
  conv => whnf
  refine ⟨m.sig, m.sig, rfl, rfl, o4.1, o4.1, ?_⟩
  rw [show decide (m.sig = m.sig) = true by simp]
  conv => whnf
  refine ⟨m.cert, m.cert, rfl, rfl, o5, o5, ?_⟩
  rw [vtsEq_self]
  conv => whnf
  refine ⟨m.votes, m.votes, rfl, rfl, o6, o6, ?_⟩
  rw [vtsEq_self]
  conv => whnf
  rw [ne_self]
  conv => whnf
  rw [ne_self]
  conv => whnf
  rw [ne_self]
  conv => whnf
  have l129 : (inCL m.order).length = m.order.length := by simp [inCL]
  refine aloop_at ?_ ?_ (aloop_inv (σ := Nat) (fun i => ((sp 0 182 [(2, .ptr 0 0), (3, .ptr 1 0), (128, .int .i64 ((inCL m.order).length : Nat)), (129, .int .i64 (i : Nat))]), [.var (msC m), .var (msC m)]))
    (fun i => i ≤ m.order.length) (fun i => m.order.length - i) ?_ N 0 (Nat.zero_le _) (by omega))
  · kernel_rfl
  · kernel_rfl
  rintro i i1 R hR
  conv => whnf
  split
  · rename_i h2; have h2 : (i : Int) < (inCL m.order).length := of_decide_eq_true h2
    rw [l129] at h2
    obtain ⟨x, hx⟩ : ∃ x, m.order[i]? = some x := ⟨m.order[i]'(by omega), List.getElem?_eq_getElem (by omega)⟩
    have hxa : (inCL m.order)[i]? = some (inC x) := by simp [inCL, hx]
    have hi1 : IntKind.i64.wrap ((i : Int) + 1) = ((i + 1 : Nat) : Int) := by rw [IntWalk.i64_in _ (by have := o7; omega)]; omega
    conv => whnf
    refine ⟨[], ?_⟩
    conv => whnf
    refine ⟨by omega, by rw [l129]; omega, _, hxa, by kernel_rfl, ?_⟩
    conv => whnf
    refine ⟨by omega, by rw [l129]; omega, _, hxa, by kernel_rfl, ?_⟩
    conv => whnf
    rw [ne_self]
    conv => whnf
    refine R_at ?_ ?_ (hR (i + 1) (by omega) (by omega))
    · rw [← hi1]; kernel_rfl
    · kernel_rfl
  conv => whnf
  clear hR R
  have l147 : (rqCL m.picks).length = m.picks.length := by simp [rqCL]
  refine aloop_at ?_ ?_ (aloop_inv (σ := Nat) (fun i => ((sp 0 182 [(2, .ptr 0 0), (3, .ptr 1 0), (146, .int .i64 ((rqCL m.picks).length : Nat)), (147, .int .i64 (i : Nat))]), [.var (msC m), .var (msC m)]))
    (fun i => i ≤ m.picks.length) (fun i => m.picks.length - i) ?_ N 0 (Nat.zero_le _) (by omega))
  · kernel_rfl
  · kernel_rfl
  rintro i i1 R hR
  conv => whnf
  split
  · rename_i h2; have h2 : (i : Int) < (rqCL m.picks).length := of_decide_eq_true h2
    rw [l147] at h2
    obtain ⟨x, hx⟩ : ∃ x, m.picks[i]? = some x := ⟨m.picks[i]'(by omega), List.getElem?_eq_getElem (by omega)⟩
    have hxa : (rqCL m.picks)[i]? = some (rqC x) := by simp [rqCL, hx]
    have hi1 : IntKind.i64.wrap ((i : Int) + 1) = ((i + 1 : Nat) : Int) := by rw [IntWalk.i64_in _ (by have := o8.1; omega)]; omega
    conv => whnf
    refine ⟨[], ?_⟩
    conv => whnf
    refine ⟨by omega, by rw [l147]; omega, _, hxa, by kernel_rfl, ?_⟩
    conv => whnf
    refine ⟨by omega, by rw [l147]; omega, _, hxa, by kernel_rfl, ?_⟩
    conv => whnf
    refine ⟨x, x, rfl, rfl, o8.2 x (List.mem_of_getElem? hx), o8.2 x (List.mem_of_getElem? hx), ?_⟩
    rw [rqEq_self]
    conv => whnf
    refine ⟨rfl, ?_⟩
    conv => whnf
    refine R_at ?_ ?_ (hR (i + 1) (by omega) (by omega))
    · rw [← hi1]; kernel_rfl
    · kernel_rfl
  conv => whnf
  clear hR R
  have l166 : (rpCL m.reports).length = m.reports.length := by simp [rpCL]
  refine aloop_at ?_ ?_ (aloop_inv (σ := Nat) (fun i => ((sp 0 182 [(2, .ptr 0 0), (3, .ptr 1 0), (165, .int .i64 ((rpCL m.reports).length : Nat)), (166, .int .i64 (i : Nat))]), [.var (msC m), .var (msC m)]))
    (fun i => i ≤ m.reports.length) (fun i => m.reports.length - i) ?_ N 0 (Nat.zero_le _) (by omega))
  · kernel_rfl
  · kernel_rfl
  rintro i i1 R hR
  conv => whnf
  split
  · rename_i h2; have h2 : (i : Int) < (rpCL m.reports).length := of_decide_eq_true h2
    rw [l166] at h2
    obtain ⟨x, hx⟩ : ∃ x, m.reports[i]? = some x := ⟨m.reports[i]'(by omega), List.getElem?_eq_getElem (by omega)⟩
    have hxa : (rpCL m.reports)[i]? = some (rpC x) := by simp [rpCL, hx]
    have hi1 : IntKind.i64.wrap ((i : Int) + 1) = ((i + 1 : Nat) : Int) := by rw [IntWalk.i64_in _ (by have := o9.1; omega)]; omega
    conv => whnf
    refine ⟨[], ?_⟩
    conv => whnf
    refine ⟨by omega, by rw [l166]; omega, _, hxa, by kernel_rfl, ?_⟩
    conv => whnf
    refine ⟨by omega, by rw [l166]; omega, _, hxa, by kernel_rfl, ?_⟩
    conv => whnf
    refine ⟨x, rfl, rfl, o9.2 x (List.mem_of_getElem? hx), ?_⟩
    conv => whnf
    refine ⟨rfl, ?_⟩
    conv => whnf
    refine R_at ?_ ?_ (hR (i + 1) (by omega) (by omega))
    · rw [← hi1]; kernel_rfl
    · kernel_rfl
  conv => whnf
  clear hR R
  refine Eq.mp ?_ hQ
  kernel_rfl

set_option maxRecDepth 100000 in
theorem s19 {T : Tab} (hT : TGood Tryd.prog T) : SGood Tryd.prog 19 (flatT g19) := flatT_good g19_det g19_flat fun args Q h => by
  unfold g19 at h
  split at h
  · obtain ⟨m, rfl, rfl, hm, hQ⟩ := h
    have t1 := ext_good hT (s18 hT)
    have t2 := ext_good t1 (s25 t1)
    have t3 := ext_good t2 (s56 t2)
    exact body_pure (ext_good t3 (s57 t3)) mixedT Tryd.func19 (entersOf Tryd.func19 (by kernel_rfl) rfl) (m.order.length + m.picks.length + m.reports.length + 1) (f19_ok m hm T Q hQ _ (by omega) (by omega) (by omega))
  · exact h.elim
end Go.Abs

