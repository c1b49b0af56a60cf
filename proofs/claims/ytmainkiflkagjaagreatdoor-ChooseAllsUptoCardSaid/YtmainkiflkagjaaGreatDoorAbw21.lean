/-
cmp.Compare, cmp.Or, ballot.Compare, choose.Low, High are what they come to.
-/
import Derived.Test.YtmainkiflkagjaaGreatDoorAbw7
import Derived.Test.YtmainkiflkagjaaGreatDoorAbw9
import Derived.Test.YtmainkiflkagjaaGreatDoorAbw10
import Derived.Test.YtmainkiflkagjaaGreatDoorAbw17
import Derived.Test.YtmainkiflkagjaaGreatDoorAbw16
namespace Go.Abs
open Go Go.Proofs

def cmpI (x y : Int) : Int := if x < y then -1 else if x > y then 1 else 0
def orI (x y : Int) : Int := cond (x != 0) x y
def cmpB (a b : BalV) : Int := orI (cmpI a.view b.view) (cmpI a.turn b.turn)

def gnan : GSpec := fun args K => match args with
  | [.int .i64 _] => K (.ret (.bool false))
  | _ => False
theorem gnan_det (args : List AV) : Det (gnan args) := by
  unfold gnan
  repeat' (first | exact Det.no | exact Det.at _ | refine Det.and ?_ | refine Det.ex fun _ => ?_ | refine Det.cond ?_ ?_ | split)
theorem gnan_flat (args : List AV) (o : AOut) (h : gnan args (· = o)) : flatO o = true := by
  unfold gnan at h
  split at h
  · cases h; rfl
  · exact h.elim
set_option maxRecDepth 100000 in
theorem fnan_ok (n : Int) (T : Tab) (Q : AOut → Prop) (hQ : Q (.ret (.bool false))) (N : Nat) :
    abody Tryz.prog T 0 N Tryz.f123 [.int .i64 n] [] (fun out Hs => Q (frzO Hs out)) := by
  have e : (n != n) = false := by simp
  rw [← e] at hQ
  refine Eq.mp ?_ hQ
  kernel_rfl
set_option maxRecDepth 100000 in
theorem snan {T : Tab} (hT : TGood Tryz.prog T) : SGood Tryz.prog 123 (flatT gnan) := flatT_good gnan_det gnan_flat fun args Q h => by
  unfold gnan at h
  split at h
  · exact body_pure hT mixedT Tryz.func123 (entersOf Tryz.func123 (by kernel_rfl) rfl) 0 (fnan_ok _ T Q h 0)
  · exact h.elim

def gcmp : GSpec := fun args K => match args with
  | [.int .i64 x, .int .i64 y] => K (.ret (.int .i64 (cmpI x y)))
  | _ => False
theorem gcmp_det (args : List AV) : Det (gcmp args) := by
  unfold gcmp
  repeat' (first | exact Det.no | exact Det.at _ | refine Det.and ?_ | refine Det.ex fun _ => ?_ | refine Det.cond ?_ ?_ | split)
theorem gcmp_flat (args : List AV) (o : AOut) (h : gcmp args (· = o)) : flatO o = true := by
  unfold gcmp at h
  split at h
  · cases h; rfl
  · exact h.elim
set_option maxRecDepth 100000 in
set_option maxHeartbeats 4000000 in
theorem fcmp_ok (x y : Int) (T : Tab) (Q : AOut → Prop) (hQ : Q (.ret (.int .i64 (cmpI x y)))) (N : Nat) :
    abody Tryz.prog (ext T 123 (flatT gnan)) 0 N Tryz.f71 [.int .i64 x, .int .i64 y] [] (fun out Hs => Q (frzO Hs out)) := by
  unfold cmpI at hQ
  conv => whnf
  split
  · rename_i h; have h : x < y := of_decide_eq_true h
    rw [if_pos h] at hQ
    refine Eq.mp ?_ hQ
    kernel_rfl
  rename_i h; have h : ¬ x < y := of_decide_eq_false h
  rw [if_neg h] at hQ
  conv => whnf
  split
  · rename_i h; have h : x > y := of_decide_eq_true h
    rw [if_pos h] at hQ
    refine Eq.mp ?_ hQ
    kernel_rfl
  rename_i h; have h : ¬ x > y := of_decide_eq_false h
  rw [if_neg h] at hQ
  refine Eq.mp ?_ hQ
  kernel_rfl
set_option maxRecDepth 100000 in
theorem scmp {T : Tab} (hT : TGood Tryz.prog T) : SGood Tryz.prog 71 (flatT gcmp) := flatT_good gcmp_det gcmp_flat fun args Q h => by
  unfold gcmp at h
  split at h
  · exact body_pure (ext_good hT (snan hT)) mixedT Tryz.func71 (entersOf Tryz.func71 (by kernel_rfl) rfl) 0 (fcmp_ok _ _ T Q h 0)
  · exact h.elim

def gor : GSpec := fun args K => match args with
  | [.slice [[.int .i64 x], [.int .i64 y]]] => K (.ret (.int .i64 (orI x y)))
  | _ => False
theorem gor_det (args : List AV) : Det (gor args) := by
  unfold gor
  repeat' (first | exact Det.no | exact Det.at _ | refine Det.and ?_ | refine Det.ex fun _ => ?_ | refine Det.cond ?_ ?_ | split)
theorem gor_flat (args : List AV) (o : AOut) (h : gor args (· = o)) : flatO o = true := by
  unfold gor at h
  split at h
  · cases h; rfl
  · exact h.elim
set_option maxRecDepth 100000 in
set_option maxHeartbeats 4000000 in
theorem for_ok (x y : Int) (T : Tab) (Q : AOut → Prop) (hQ : Q (.ret (.int .i64 (orI x y)))) (N : Nat) :
    abody Tryz.prog T 0 (N + 3) Tryz.f70 [.slice [[.int .i64 x], [.int .i64 y]]] [] (fun out Hs => Q (frzO Hs out)) := by
  unfold orI at hQ
  conv => whnf
  refine ⟨by decide, by show (0 : Int) < 2; decide, [.int .i64 x], rfl, by kernel_rfl, ?_⟩
  conv => whnf
  cases h : (x != 0) with
  | true =>
    rw [h] at hQ
    conv => whnf
    refine Eq.mp ?_ hQ
    kernel_rfl
  | false =>
    rw [h] at hQ
    conv => whnf
    refine ⟨by decide, by show (1 : Int) < 2; decide, [.int .i64 y], rfl, by kernel_rfl, ?_⟩
    conv => whnf
    cases h2 : (y != 0) with
    | true =>
      conv => whnf
      refine Eq.mp ?_ hQ
      kernel_rfl
    | false =>
      have hy : y = 0 := by simpa using h2
      subst hy
      conv => whnf
      refine Eq.mp ?_ hQ
      kernel_rfl
set_option maxRecDepth 100000 in
theorem sor {T : Tab} (hT : TGood Tryz.prog T) : SGood Tryz.prog 70 (flatT gor) := flatT_good gor_det gor_flat fun args Q h => by
  unfold gor at h
  split at h
  · exact body_pure hT mixedT Tryz.func70 (entersOf Tryz.func70 (by kernel_rfl) rfl) 3 (for_ok _ _ T Q h 0)
  · exact h.elim

def gcb : GSpec := fun args K => match args with
  | [.agg [.int .i64 a, .int .i64 b], .agg [.int .i64 c, .int .i64 d]] => K (.ret (.int .i64 (cmpB ⟨a, b⟩ ⟨c, d⟩)))
  | _ => False
theorem gcb_det (args : List AV) : Det (gcb args) := by
  unfold gcb
  repeat' (first | exact Det.no | exact Det.at _ | refine Det.and ?_ | refine Det.ex fun _ => ?_ | refine Det.cond ?_ ?_ | split)
theorem gcb_flat (args : List AV) (o : AOut) (h : gcb args (· = o)) : flatO o = true := by
  unfold gcb at h
  split at h
  · cases h; rfl
  · exact h.elim
set_option maxRecDepth 100000 in
set_option maxHeartbeats 4000000 in
theorem fcb_ok (a b c d : Int) (T : Tab) (Q : AOut → Prop) (hQ : Q (.ret (.int .i64 (cmpB ⟨a, b⟩ ⟨c, d⟩)))) (N : Nat) :
    abody Tryz.prog (ext (ext T 71 (flatT gcmp)) 70 (flatT gor)) 0 N Tryz.f33 [.agg [.int .i64 a, .int .i64 b], .agg [.int .i64 c, .int .i64 d]] [] (fun out Hs => Q (frzO Hs out)) := by
  unfold cmpB at hQ
  dsimp only at hQ
  conv => whnf
  refine ⟨[10], ?_⟩
  conv => whnf
  repeat (refine ⟨rfl, ?_⟩; conv => whnf)
  refine Eq.mp ?_ hQ
  kernel_rfl
set_option maxRecDepth 100000 in
theorem scb {T : Tab} (hT : TGood Tryz.prog T) : SGood Tryz.prog 33 (flatT gcb) := flatT_good gcb_det gcb_flat fun args Q h => by
  unfold gcb at h
  split at h
  · have t0 := ext_good hT (scmp hT)
    exact body_pure (ext_good t0 (sor t0)) mixedT Tryz.func33 (entersOf Tryz.func33 (by kernel_rfl) rfl) 0 (fcb_ok _ _ _ _ T Q h 0)
  · exact h.elim

/-! ### Low, High -/
def mx (x y : Int) : Int := if x < y then y else x
def lowL (l : List RpV) (a : Int) : Int := l.foldl (fun a r => mx a r.low) a
def highP (l : List PrV) (a : Int) : Int := l.foldl (fun a p => mx a p.slot) a
def highF (l : List RpV) (a : Int) : Int := l.foldl (fun a r => highP r.preps a) a
def highL (l : List RpV) : Int := highF l (lowL l 0)
theorem drop_get {α : Type} {l : List α} {i : Nat} {x : α} (h : l[i]? = some x) : l.drop i = x :: l.drop (i + 1) := by
  obtain ⟨hi, rfl⟩ := List.getElem?_eq_some_iff.1 h
  exact List.drop_eq_getElem_cons hi

def glow : GSpec := fun args K => match args with
  | [.slice es] => ∃ l : List RpV, es = rpCL l ∧ l.length ≤ 1099511627776 ∧ K (.ret (.int .i64 (lowL l 0)))
  | _ => False
theorem glow_det (args : List AV) : Det (glow args) := by
  unfold glow
  repeat' (first | exact Det.no | exact Det.at _ | refine Det.and ?_ | refine Det.ex fun _ => ?_ | refine Det.cond ?_ ?_ | split)
theorem glow_flat (args : List AV) (o : AOut) (h : glow args (· = o)) : flatO o = true := by
  unfold glow at h
  split at h
  · obtain ⟨_, _, _, rfl⟩ := h; rfl
  · exact h.elim
set_option maxRecDepth 100000 in
set_option maxHeartbeats 4000000 in
theorem flow_ok (l : List RpV) (hl : l.length ≤ 1099511627776) (T : Tab) (Q : AOut → Prop) (hQ : Q (.ret (.int .i64 (lowL l 0)))) (N : Nat) (hN : l.length < N) :
    abody Tryz.prog T 0 N Tryz.f20 [.slice (rpCL l)] [] (fun out Hs => Q (frzO Hs out)) := by
  have hlen : (rpCL l).length = l.length := by simp [rpCL]
  conv => whnf
  refine aloop_at ?_ ?_ (aloop_inv (σ := Nat × Int) (fun s => ((sp 0 18 [(3, .int .i64 s.2), (6, .slice (rpCL l)), (7, .int .i64 ((rpCL l).length : Nat)), (8, .int .i64 (s.1 : Nat))]), []))
    (fun s => s.1 ≤ l.length ∧ lowL l 0 = lowL (l.drop s.1) s.2) (fun s => l.length - s.1) ?_ N (0, 0) ⟨Nat.zero_le _, rfl⟩ (by dsimp only; omega))
  · kernel_rfl
  · kernel_rfl
  rintro ⟨i, a⟩ ⟨i1, i2⟩ R hR
  dsimp only at i1 i2
  conv => whnf
  split
  rotate_left
  · rename_i h3; have h3 : ¬ (i : Int) < (rpCL l).length := of_decide_eq_false h3
    rw [hlen] at h3
    rw [List.drop_of_length_le (by omega)] at i2
    rw [i2] at hQ
    refine Eq.mp ?_ hQ
    kernel_rfl
  rename_i h3; have h3 : (i : Int) < (rpCL l).length := of_decide_eq_true h3
  rw [hlen] at h3
  obtain ⟨r, hr⟩ : ∃ r, l[i]? = some r := ⟨l[i]'(by omega), List.getElem?_eq_getElem (by omega)⟩
  have hra : (rpCL l)[i]? = some (rpC r) := by simp [rpCL, hr]
  rw [drop_get hr] at i2
  have hi1 : IntKind.i64.wrap ((i : Int) + 1) = ((i + 1 : Nat) : Int) := by rw [IntWalk.i64_in _ (by omega)]; omega
  conv => whnf
  refine ⟨by show (0 : Int) ≤ (i : Nat); omega, by show ((i : Nat) : Int) < ((rpCL l).length : Nat); omega, _, hra, by kernel_rfl, ?_⟩
  conv => whnf
  refine R_at ?_ ?_ (hR (i + 1, mx a r.low) ⟨by omega, i2⟩ (by dsimp only; omega))
  · rw [← hi1]; kernel_rfl
  · kernel_rfl
set_option maxRecDepth 100000 in
theorem slow {T : Tab} (hT : TGood Tryz.prog T) : SGood Tryz.prog 20 (flatT glow) := flatT_good glow_det glow_flat fun args Q h => by
  unfold glow at h
  split at h
  · obtain ⟨l, rfl, hl, hQ⟩ := h
    exact body_pure hT mixedT Tryz.func20 (entersOf Tryz.func20 (by kernel_rfl) rfl) _ (flow_ok l hl T Q hQ (l.length + 1) (Nat.lt_succ_self _))
  · exact h.elim

/-- Reports of moderate length. -/
def okRL (l : List RpV) : Prop := l.length ≤ 1099511627776 ∧ ∀ r ∈ l, r.preps.length ≤ 1099511627776 ∧ ∀ p ∈ r.preps, okR p.req
def ghigh : GSpec := fun args K => match args with
  | [.slice es] => ∃ l : List RpV, es = rpCL l ∧ okRL l ∧ K (.ret (.int .i64 (highL l)))
  | _ => False
theorem ghigh_det (args : List AV) : Det (ghigh args) := by
  unfold ghigh
  repeat' (first | exact Det.no | exact Det.at _ | refine Det.and ?_ | refine Det.ex fun _ => ?_ | refine Det.cond ?_ ?_ | split)
theorem ghigh_flat (args : List AV) (o : AOut) (h : ghigh args (· = o)) : flatO o = true := by
  unfold ghigh at h
  split at h
  · obtain ⟨_, _, _, rfl⟩ := h; rfl
  · exact h.elim
set_option maxRecDepth 100000 in
set_option maxHeartbeats 8000000 in
theorem fhigh_ok (l : List RpV) (hl : okRL l) (T : Tab) (Q : AOut → Prop) (hQ : Q (.ret (.int .i64 (highL l)))) (N : Nat) (hN : l.length < N) (hN2 : ∀ r ∈ l, r.preps.length < N) :
    abody Tryz.prog (ext T 20 (flatT glow)) 0 N Tryz.f63 [.slice (rpCL l)] [] (fun out Hs => Q (frzO Hs out)) := by
  have hlen : (rpCL l).length = l.length := by simp [rpCL]
  have hl1 := hl.1
  unfold highL at hQ
  conv => whnf
  refine ⟨l, rfl, hl1, ?_⟩
  generalize lowL l 0 = a0 at hQ ⊢
  conv => whnf
  refine aloop_at ?_ ?_ (aloop_inv (σ := Nat × Int) (fun s => ((sp 0 30 [(3, .int .i64 s.2), (10, .slice (rpCL l)), (11, .int .i64 ((rpCL l).length : Nat)), (12, .int .i64 (s.1 : Nat))]), []))
    (fun s => s.1 ≤ l.length ∧ highF l a0 = highF (l.drop s.1) s.2) (fun s => l.length - s.1) ?_ N (0, a0) ⟨Nat.zero_le _, rfl⟩ (by dsimp only; omega))
  · kernel_rfl
  · kernel_rfl
  rintro ⟨i, a⟩ ⟨i1, i2⟩ R hR
  dsimp only at i1 i2
  conv => whnf
  split
  rotate_left
  · rename_i h3; have h3 : ¬ (i : Int) < (rpCL l).length := of_decide_eq_false h3
    rw [hlen] at h3
    rw [List.drop_of_length_le (by omega)] at i2
    rw [i2] at hQ
    refine Eq.mp ?_ hQ
    kernel_rfl
  rename_i h3; have h3 : (i : Int) < (rpCL l).length := of_decide_eq_true h3
  rw [hlen] at h3
  obtain ⟨r, hr⟩ : ∃ r, l[i]? = some r := ⟨l[i]'(by omega), List.getElem?_eq_getElem (by omega)⟩
  have hra : (rpCL l)[i]? = some (rpC r) := by simp [rpCL, hr]
  rw [drop_get hr] at i2
  have hi1 : IntKind.i64.wrap ((i : Int) + 1) = ((i + 1 : Nat) : Int) := by rw [IntWalk.i64_in _ (by omega)]; omega
  have hp := hN2 r (List.mem_of_getElem? hr)
  have hp1 := (hl.2 r (List.mem_of_getElem? hr)).1
  have hplen : (prCL r.preps).length = r.preps.length := by simp [prCL]
  conv => whnf
  refine ⟨by show (0 : Int) ≤ (i : Nat); omega, by show ((i : Nat) : Int) < ((rpCL l).length : Nat); omega, _, hra, by kernel_rfl, ?_⟩
  conv => whnf
  refine aloop_at ?_ ?_ (aloop_inv (σ := Nat × Int) (fun s => ((sp 0 30 [(3, .int .i64 s.2), (10, .slice (rpCL l)), (11, .int .i64 ((rpCL l).length : Nat)), (12, .int .i64 (i : Nat)), (17, .slice (prCL r.preps)), (18, .int .i64 ((prCL r.preps).length : Nat)), (19, .int .i64 (s.1 : Nat))]), []))
    (fun s => s.1 ≤ r.preps.length ∧ highP r.preps a = highP (r.preps.drop s.1) s.2) (fun s => r.preps.length - s.1) ?_ N (0, a) ⟨Nat.zero_le _, rfl⟩ (by dsimp only; omega))
  · kernel_rfl
  · kernel_rfl
  rintro ⟨j, c⟩ ⟨j1, j2⟩ R' hR'
  dsimp only at j1 j2
  conv => whnf
  split
  rotate_left
  · rename_i h4; have h4 : ¬ (j : Int) < (prCL r.preps).length := of_decide_eq_false h4
    rw [hplen] at h4
    rw [List.drop_of_length_le (by omega)] at j2
    conv => whnf
    refine R_at ?_ ?_ (hR (i + 1, highP r.preps a) ⟨by omega, i2⟩ (by dsimp only; omega))
    · rw [← hi1, j2]; kernel_rfl
    · kernel_rfl
  rename_i h4; have h4 : (j : Int) < (prCL r.preps).length := of_decide_eq_true h4
  rw [hplen] at h4
  obtain ⟨p, hpp⟩ : ∃ p, r.preps[j]? = some p := ⟨r.preps[j]'(by omega), List.getElem?_eq_getElem (by omega)⟩
  have hpa : (prCL r.preps)[j]? = some (prC p) := by simp [prCL, hpp]
  rw [drop_get hpp] at j2
  have hj1 : IntKind.i64.wrap ((j : Int) + 1) = ((j + 1 : Nat) : Int) := by rw [IntWalk.i64_in _ (by omega)]; omega
  conv => whnf
  refine ⟨by show (0 : Int) ≤ (j : Nat); omega, by show ((j : Nat) : Int) < ((prCL r.preps).length : Nat); omega, _, hpa, by kernel_rfl, ?_⟩
  conv => whnf
  refine R_at ?_ ?_ (hR' (j + 1, mx c p.slot) ⟨by omega, j2⟩ (by dsimp only; omega))
  · rw [← hj1]; kernel_rfl
  · kernel_rfl
def fuelR (l : List RpV) : Nat := l.length + (l.map fun r => r.preps.length).sum + 1
theorem le_sum_mem : ∀ (l : List Nat) (n : Nat), n ∈ l → n ≤ l.sum
  | x :: l, n, h => by
    rcases List.mem_cons.1 h with rfl | h
    · simp only [List.sum_cons]; omega
    · have := le_sum_mem l n h
      simp only [List.sum_cons]
      omega
theorem fuelR_ok (l : List RpV) : l.length < fuelR l ∧ ∀ r ∈ l, r.preps.length < fuelR l := by
  refine ⟨by unfold fuelR; omega, fun r hr => ?_⟩
  have : r.preps.length ≤ (l.map fun r => r.preps.length).sum := le_sum_mem _ _ (List.mem_map.2 ⟨r, hr, rfl⟩)
  unfold fuelR
  omega
set_option maxRecDepth 100000 in
theorem shigh {T : Tab} (hT : TGood Tryz.prog T) : SGood Tryz.prog 63 (flatT ghigh) := flatT_good ghigh_det ghigh_flat fun args Q h => by
  unfold ghigh at h
  split at h
  · obtain ⟨l, rfl, hl, hQ⟩ := h
    exact body_pure (ext_good hT (slow hT)) mixedT Tryz.func63 (entersOf Tryz.func63 (by kernel_rfl) rfl) _ (fhigh_ok l hl T Q hQ (fuelR l) (fuelR_ok l).1 (fuelR_ok l).2)
  · exact h.elim
end Go.Abs

/-
choose.best, Pick, Picks are what they come to.
-/
namespace Go.Abs
open Go Go.Proofs

def stepB (slot : Int) (o : Option PrV) (p : PrV) : Option PrV := match o with
  | none => cond (p.slot == slot) (some p) none
  | some q => cond (p.slot == slot && decide (cmpB p.bal q.bal > 0)) (some p) (some q)
def bestP (slot : Int) (l : List PrV) (o : Option PrV) : Option PrV := l.foldl (stepB slot) o
def bestF (slot : Int) (l : List RpV) (o : Option PrV) : Option PrV := l.foldl (fun o r => bestP slot r.preps o) o
def optA : Option PrV → AV
  | none => .nilptr
  | some p => .eptr (prC p)

def gbest : GSpec := fun args K => match args with
  | [.int .i64 s, .slice es] => ∃ l : List RpV, es = rpCL l ∧ okRL l ∧ K (.ret (optA (bestF s l none)))
  | _ => False
theorem gbest_det (args : List AV) : Det (gbest args) := by
  unfold gbest
  repeat' (first | exact Det.no | exact Det.at _ | refine Det.and ?_ | refine Det.ex fun _ => ?_ | refine Det.cond ?_ ?_ | split)
set_option maxRecDepth 100000 in
set_option maxHeartbeats 16000000 in
theorem fbest_ok (s : Int) (l : List RpV) (hl : okRL l) (T : Tab) (Q : AOut → Prop) (hQ : Q (.ret (optA (bestF s l none)))) (N : Nat) (hN : l.length < N) (hN2 : ∀ r ∈ l, r.preps.length < N) :
    abody Tryz.prog (ext T 33 (flatT gcb)) 0 N Tryz.f108 [.int .i64 s, .slice (rpCL l)] [] (fun out Hs => Q (frzO Hs out)) := by
  have hlen : (rpCL l).length = l.length := by simp [rpCL]
  have hl1 := hl.1
  conv => whnf
  refine aloop_at ?_ ?_ (aloop_inv (σ := Nat × Option PrV) (fun z => ((sp 0 49 [(0, .int .i64 s), (5, optA z.2), (10, .slice (rpCL l)), (11, .int .i64 ((rpCL l).length : Nat)), (12, .int .i64 (z.1 : Nat))]), []))
    (fun z => z.1 ≤ l.length ∧ bestF s l none = bestF s (l.drop z.1) z.2) (fun z => l.length - z.1) ?_ N (0, none) ⟨Nat.zero_le _, rfl⟩ (by dsimp only; omega))
  · kernel_rfl
  · kernel_rfl
  rintro ⟨i, o⟩ ⟨i1, i2⟩ R hR
  dsimp only at i1 i2
  cases o
  all_goals
    conv => whnf
    split
    rotate_left
    · rename_i h3; have h3 : ¬ (i : Int) < (rpCL l).length := of_decide_eq_false h3
      rw [hlen] at h3
      rw [List.drop_of_length_le (by omega)] at i2
      rw [i2] at hQ
      refine Eq.mp ?_ hQ
      kernel_rfl
    rename_i h3; have h3 : (i : Int) < (rpCL l).length := of_decide_eq_true h3
    rw [hlen] at h3
    obtain ⟨r, hr⟩ : ∃ r, l[i]? = some r := ⟨l[i]'(by omega), List.getElem?_eq_getElem (by omega)⟩
    have hra : (rpCL l)[i]? = some (rpC r) := by simp [rpCL, hr]
    rw [drop_get hr] at i2
    have hi1 : IntKind.i64.wrap ((i : Int) + 1) = ((i + 1 : Nat) : Int) := by rw [IntWalk.i64_in _ (by omega)]; omega
    have hp := hN2 r (List.mem_of_getElem? hr)
    have hp1 := (hl.2 r (List.mem_of_getElem? hr)).1
    have hplen : (prCL r.preps).length = r.preps.length := by simp [prCL]
    conv => whnf
    refine ⟨by show (0 : Int) ≤ (i : Nat); omega, by show ((i : Nat) : Int) < ((rpCL l).length : Nat); omega, _, hra, by kernel_rfl, ?_⟩
    conv => whnf
    refine aloop_at ?_ ?_ (aloop_inv (σ := Nat × Option PrV) (fun z => ((sp 0 49 [(0, .int .i64 s), (5, optA z.2), (7, .ptr 0 0), (10, .slice (rpCL l)), (11, .int .i64 ((rpCL l).length : Nat)), (12, .int .i64 (i : Nat)), (17, .slice (prCL r.preps)), (18, .int .i64 ((prCL r.preps).length : Nat)), (19, .int .i64 (z.1 : Nat))]), [.var (rpC r)]))
      (fun z => z.1 ≤ r.preps.length ∧ bestF s l none = bestF s (l.drop (i + 1)) (bestP s (r.preps.drop z.1) z.2)) (fun z => r.preps.length - z.1) ?_ N (0, _) ⟨Nat.zero_le _, i2⟩ (by dsimp only; omega))
    · kernel_rfl
    · kernel_rfl
    clear i2
    rintro ⟨j, c⟩ ⟨j1, j2⟩ R' hR'
    dsimp only at j1 j2
    have idx : (0 : Int) ≤ (j : Nat) := by omega
    rcases c with _ | q
    · conv => whnf
      split
      rotate_left
      · rename_i h4; have h4 : ¬ (j : Int) < (prCL r.preps).length := of_decide_eq_false h4
        rw [hplen] at h4
        rw [show r.preps.drop j = [] from List.drop_of_length_le (by omega)] at j2
        conv => whnf
        refine R_at ?_ ?_ (hR (i + 1, _) ⟨by omega, j2⟩ (by dsimp only; omega))
        · rw [← hi1]; kernel_rfl
        · kernel_rfl
      rename_i h4; have h4 : (j : Int) < (prCL r.preps).length := of_decide_eq_true h4
      rw [hplen] at h4
      obtain ⟨p, hpp⟩ : ∃ p, r.preps[j]? = some p := ⟨r.preps[j]'(by omega), List.getElem?_eq_getElem (by omega)⟩
      have hpa : (prCL r.preps)[j]? = some (prC p) := by simp [prCL, hpp]
      rw [drop_get hpp] at j2
      have hj1 : IntKind.i64.wrap ((j : Int) + 1) = ((j + 1 : Nat) : Int) := by rw [IntWalk.i64_in _ (by omega)]; omega
      conv => whnf
      refine ⟨by show (0 : Int) ≤ (j : Nat); omega, by show ((j : Nat) : Int) < ((prCL r.preps).length : Nat); omega, _, hpa, by kernel_rfl, ?_⟩
      conv => whnf
      refine ⟨[], ?_⟩
      conv => whnf
      generalize hg : (p.slot == s) = g
      cases g with
      | false =>
        have hst : bestP s (p :: r.preps.drop (j + 1)) none = bestP s (r.preps.drop (j + 1)) none := by simp only [bestP, List.foldl_cons, stepB, hg, _root_.cond_false]
        rw [hst] at j2
        conv => whnf
        repeat (refine ⟨rfl, ?_⟩; conv => whnf)
        refine R_at ?_ ?_ (hR' (j + 1, none) ⟨by omega, j2⟩ (by dsimp only; omega))
        · rw [← hj1]; kernel_rfl
        · kernel_rfl
      | true =>
        have hst : bestP s (p :: r.preps.drop (j + 1)) none = bestP s (r.preps.drop (j + 1)) (some p) := by simp only [bestP, List.foldl_cons, stepB, hg, _root_.cond_true]
        rw [hst] at j2
        conv => whnf
        repeat (refine ⟨rfl, ?_⟩; conv => whnf)
        refine ⟨idx, by show ((j : Nat) : Int) < ((prCL r.preps).length : Nat); omega, _, hpa, by kernel_rfl, ?_⟩
        conv => whnf
        refine R_at ?_ ?_ (hR' (j + 1, some p) ⟨by omega, j2⟩ (by dsimp only; omega))
        · rw [← hj1]; kernel_rfl
        · kernel_rfl
    · conv => whnf
      split
      rotate_left
      · rename_i h4; have h4 : ¬ (j : Int) < (prCL r.preps).length := of_decide_eq_false h4
        rw [hplen] at h4
        rw [show r.preps.drop j = [] from List.drop_of_length_le (by omega)] at j2
        conv => whnf
        refine R_at ?_ ?_ (hR (i + 1, _) ⟨by omega, j2⟩ (by dsimp only; omega))
        · rw [← hi1]; kernel_rfl
        · kernel_rfl
      rename_i h4; have h4 : (j : Int) < (prCL r.preps).length := of_decide_eq_true h4
      rw [hplen] at h4
      obtain ⟨p, hpp⟩ : ∃ p, r.preps[j]? = some p := ⟨r.preps[j]'(by omega), List.getElem?_eq_getElem (by omega)⟩
      have hpa : (prCL r.preps)[j]? = some (prC p) := by simp [prCL, hpp]
      rw [drop_get hpp] at j2
      have hj1 : IntKind.i64.wrap ((j : Int) + 1) = ((j + 1 : Nat) : Int) := by rw [IntWalk.i64_in _ (by omega)]; omega
      conv => whnf
      refine ⟨by show (0 : Int) ≤ (j : Nat); omega, by show ((j : Nat) : Int) < ((prCL r.preps).length : Nat); omega, _, hpa, by kernel_rfl, ?_⟩
      conv => whnf
      refine ⟨[], ?_⟩
      conv => whnf
      generalize hg : (p.slot == s) = g
      cases g with
      | false =>
        have hst : bestP s (p :: r.preps.drop (j + 1)) (some q) = bestP s (r.preps.drop (j + 1)) (some q) := by simp only [bestP, List.foldl_cons, stepB, hg, Bool.false_and, _root_.cond_false]
        rw [hst] at j2
        conv => whnf
        repeat (refine ⟨rfl, ?_⟩; conv => whnf)
        refine R_at ?_ ?_ (hR' (j + 1, some q) ⟨by omega, j2⟩ (by dsimp only; omega))
        · rw [← hj1]; kernel_rfl
        · kernel_rfl
      | true =>
        conv => whnf
        repeat (refine ⟨rfl, ?_⟩; conv => whnf)
        split
        · rename_i h5; have h5 : decide (cmpB p.bal q.bal > 0) = true := h5
          have hst : bestP s (p :: r.preps.drop (j + 1)) (some q) = bestP s (r.preps.drop (j + 1)) (some p) := by simp only [bestP, List.foldl_cons, stepB, hg, h5, Bool.true_and, _root_.cond_true]
          rw [hst] at j2
          conv => whnf
          refine ⟨idx, by show ((j : Nat) : Int) < ((prCL r.preps).length : Nat); omega, _, hpa, by kernel_rfl, ?_⟩
          conv => whnf
          refine R_at ?_ ?_ (hR' (j + 1, some p) ⟨by omega, j2⟩ (by dsimp only; omega))
          · rw [← hj1]; kernel_rfl
          · kernel_rfl
        · rename_i h5; have h5 : decide (cmpB p.bal q.bal > 0) = false := h5
          have hst : bestP s (p :: r.preps.drop (j + 1)) (some q) = bestP s (r.preps.drop (j + 1)) (some q) := by simp only [bestP, List.foldl_cons, stepB, hg, h5, Bool.and_false, _root_.cond_false]
          rw [hst] at j2
          conv => whnf
          refine R_at ?_ ?_ (hR' (j + 1, some q) ⟨by omega, j2⟩ (by dsimp only; omega))
          · rw [← hj1]; kernel_rfl
          · kernel_rfl
set_option maxRecDepth 100000 in
theorem sbest {T : Tab} (hT : TGood Tryz.prog T) : SGood Tryz.prog 108 (pureT gbest) := pureT_good gbest_det fun args Q h => by
  unfold gbest at h
  split at h
  · obtain ⟨l, rfl, hl, hQ⟩ := h
    exact body_pure (ext_good hT (scb hT)) mixedT Tryz.func108 (entersOf Tryz.func108 (by kernel_rfl) rfl) _ (fbest_ok _ l hl T Q hQ (fuelR l) (fuelR_ok l).1 (fuelR_ok l).2)
  · exact h.elim

end Go.Abs

/-
choose.Pick, Picks are what they come to.
-/
namespace Go.Abs
open Go Go.Proofs

/-! ### Pick, Picks -/
def zRq : RqV := ⟨0, 0, [], []⟩
def pickL (slot : Int) (l : List RpV) : RqV := match bestF slot l none with
  | none => zRq
  | some p => p.req
theorem bestP_ok {s : Int} : ∀ (l : List PrV) (o : Option PrV), (∀ p ∈ l, okR p.req) → (∀ p, o = some p → okR p.req) → ∀ p, bestP s l o = some p → okR p.req
  | [], _, _, h, p, hp => h p hp
  | x :: l, o, hl, h, p, hp => by
    refine bestP_ok l (stepB s o x) (fun y hy => hl y (List.mem_cons_of_mem _ hy)) (fun y hy => ?_) p hp
    unfold stepB at hy
    split at hy
    · cases hb : (x.slot == s) <;> rw [hb] at hy
      · cases hy
      · cases hy; exact hl _ List.mem_cons_self
    · cases hb : (x.slot == s && decide (cmpB x.bal (_ : PrV).bal > 0)) <;> rw [hb] at hy
      · exact h _ hy
      · cases hy; exact hl _ List.mem_cons_self
theorem bestF_ok {s : Int} : ∀ (l : List RpV) (o : Option PrV), (∀ r ∈ l, ∀ p ∈ r.preps, okR p.req) → (∀ p, o = some p → okR p.req) → ∀ p, bestF s l o = some p → okR p.req
  | [], _, _, h, p, hp => h p hp
  | x :: l, o, hl, h, p, hp => bestF_ok l (bestP s x.preps o) (fun y hy => hl y (List.mem_cons_of_mem _ hy)) (fun y hy => bestP_ok x.preps o (hl x List.mem_cons_self) h y hy) p hp
def gpick : GSpec := fun args K => match args with
  | [.int .i64 s, .slice es] => ∃ l : List RpV, es = rpCL l ∧ okRL l ∧ K (.ret (.agg (rqC (pickL s l))))
  | _ => False
theorem gpick_det (args : List AV) : Det (gpick args) := by
  unfold gpick
  repeat' (first | exact Det.no | exact Det.at _ | refine Det.and ?_ | refine Det.ex fun _ => ?_ | refine Det.cond ?_ ?_ | split)
set_option maxRecDepth 100000 in
set_option maxHeartbeats 8000000 in
theorem fpick_ok (s : Int) (l : List RpV) (hl : okRL l) (T : Tab) (Q : AOut → Prop) (hQ : Q (.ret (.agg (rqC (pickL s l))))) (N : Nat) :
    abody Tryz.prog (ext (ext T 108 (pureT gbest)) 109 (pureT g83)) 0 N Tryz.f64 [.int .i64 s, .slice (rpCL l)] [] (fun out Hs => Q (frzO Hs out)) := by
  have hok := bestF_ok (s := s) l none (fun r hr => (hl.2 r hr).2) (fun p h => by cases h)
  unfold pickL at hQ
  conv => whnf
  refine ⟨l, rfl, hl, ?_⟩
  generalize bestF s l none = o at hQ hok ⊢
  cases o with
  | none =>
    conv => whnf
    refine Eq.mp ?_ hQ
    kernel_rfl
  | some p =>
    have hp := hok p rfl
    conv => whnf
    refine ⟨[6, 8], ?_⟩
    have o1 := hp.1.2
    have o2 := hp.2.2
    conv => whnf
    repeat ((first | refine ⟨p.req.op, rfl, by omega, ?_⟩ | refine ⟨p.req.sig, rfl, by omega, ?_⟩ | refine ⟨rfl, ?_⟩ | refine ⟨by (conv => whnf); exact ⟨rfl, rfl⟩, ?_⟩ | refine ⟨by (conv => whnf); exact ⟨p.req.op, rfl, by omega, rfl, rfl⟩, ?_⟩ | refine ⟨by (conv => whnf); exact ⟨p.req.sig, rfl, by omega, rfl, rfl⟩, ?_⟩); conv => whnf)
    refine Eq.mp ?_ hQ
    kernel_rfl
set_option maxRecDepth 100000 in
theorem spick {T : Tab} (hT : TGood Tryz.prog T) : SGood Tryz.prog 64 (pureT gpick) := pureT_good gpick_det fun args Q h => by
  unfold gpick at h
  split at h
  · obtain ⟨l, rfl, hl, hQ⟩ := h
    have t0 := ext_good hT (sbest hT)
    exact body_pure (ext_good t0 (s83 t0)) mixedT Tryz.func64 (entersOf Tryz.func64 (by kernel_rfl) rfl) 0 (fpick_ok _ l hl T Q hQ 0)
  · exact h.elim

/-- The requests that a new ballot goes on with. -/
def picksN (l : List RpV) : Nat := let d := IntKind.i64.wrap (highL l - lowL l 0); (if 16 < d then (16 : Int) else d).toNat
def slotAt (l : List RpV) (i : Nat) : Int := IntKind.i64.wrap (IntKind.i64.wrap (lowL l 0 + 1) + i)
def picksL (l : List RpV) : List RqV := (List.range (picksN l)).map fun i => pickL (slotAt l i) l
def gpicks : GSpec := fun args K => match args with
  | [.slice es] => ∃ l : List RpV, es = rpCL l ∧ okRL l ∧ K (.ret (.slice (rqCL (picksL l))))
  | _ => False
theorem gpicks_det (args : List AV) : Det (gpicks args) := by
  unfold gpicks
  repeat' (first | exact Det.no | exact Det.at _ | refine Det.and ?_ | refine Det.ex fun _ => ?_ | refine Det.cond ?_ ?_ | split)
theorem fits_16 {el : List AV} {n : Nat} (h : el.length = 4) (hn : n ≤ 16) (bytes : Nat) (hb : Nat.ble bytes 4096 = true) : FitsA [el] 4 bytes n := by
  have hb := Nat.le_of_ble_eq_true hb
  refine fits_one h ?_ (by omega)
  have : (n + 1) * bytes ≤ 17 * 4096 := Nat.mul_le_mul (by omega) hb
  omega
def rowVp (l : List (List AV)) : AV := match l with | [] => .zslice | _ => .row 0
def rowHp (l : List (List AV)) : Heap := match l with | [] => [] | _ => [.row true 39 4 l]
set_option maxRecDepth 100000 in
set_option maxHeartbeats 8000000 in
theorem fpicks_ok (l : List RpV) (hl : okRL l) (T : Tab) (Q : AOut → Prop) (hQ : Q (.ret (.slice (rqCL (picksL l))))) (N : Nat) (hN : 16 < N) :
    abody Tryz.prog (ext (ext (ext T 20 (flatT glow)) 63 (flatT ghigh)) 64 (pureT gpick)) 0 N Tryz.f19 [.slice (rpCL l)] [] (fun out Hs => Q (frzO Hs out)) := by
  conv => whnf
  refine ⟨l, rfl, hl.1, ?_⟩
  conv => whnf
  refine ⟨l, rfl, hl, ?_⟩
  generalize hm : (if (16 : Int) < IntKind.i64.wrap (highL l - lowL l 0) then (16 : Int) else IntKind.i64.wrap (highL l - lowL l 0)) = m
  have hN1 : picksN l = m.toNat := by unfold picksN; dsimp only; rw [hm]
  have hm16 : m ≤ 16 := by rw [← hm]; split <;> omega
  conv => whnf
  refine aloop_at ?_ ?_ (aloop_inv (σ := Nat × List RqV) (fun s => ((sp 0 27 [(0, .slice (rpCL l)), (3, rowVp (rqCL s.2)), (4, .int .i64 (lowL l 0)), (12, .int .i64 (if (16 : Int) < IntKind.i64.wrap (highL l - lowL l 0) then (16 : Int) else IntKind.i64.wrap (highL l - lowL l 0))), (13, .int .i64 (s.1 : Nat))]), rowHp (rqCL s.2)))
    (fun s => s.1 ≤ m.toNat ∧ s.2 = (List.range s.1).map fun i => pickL (slotAt l i) l) (fun s => m.toNat - s.1) ?_ N (0, []) ⟨Nat.zero_le _, rfl⟩ (by dsimp only; omega))
  · kernel_rfl
  · kernel_rfl
  rintro ⟨i, acc⟩ ⟨i1, i2⟩ R hR
  dsimp only at i1 i2
  have hi16 : i ≤ 16 := by omega
  have hcl : (rqCL acc).length = i := by rw [i2]; simp [rqCL]
  have hend : ¬ (i : Int) < m → Q (.ret (.slice (rqCL acc))) := fun h => by
    have : i = m.toNat := by omega
    have : acc = picksL l := by rw [i2, this, ← hN1]; rfl
    rw [this]
    exact hQ
  have hi1 : IntKind.i64.wrap ((i : Int) + 1) = ((i + 1 : Nat) : Int) := by rw [IntWalk.i64_in _ (by omega)]; omega
  have hnext : (List.range (i + 1)).map (fun i => pickL (slotAt l i) l) = acc ++ [pickL (slotAt l i) l] := by rw [List.range_succ, List.map_append, ← i2]; rfl
  rcases acc with _ | ⟨x, xs⟩
  · conv => whnf
    split
    rotate_left
    · rename_i h3; have h3 : ¬ (i : Int) < m := by rw [← hm]; exact of_decide_eq_false h3
      refine Eq.mp ?_ (hend h3)
      kernel_rfl
    rename_i h3; have h3 : (i : Int) < m := by rw [← hm]; exact of_decide_eq_true h3
    conv => whnf
    refine ⟨l, rfl, hl, ?_⟩
    conv => whnf
    refine ⟨fits_at (ys' := [rqC (pickL (slotAt l i) l)]) (by kernel_rfl) (fits_16 rfl (Nat.le_trans (Nat.le_of_eq hcl) hi16) _ (by kernel_rfl)), ?_⟩
    conv => whnf
    refine R_at ?_ ?_ (hR (i + 1, [pickL (slotAt l i) l]) ⟨by omega, hnext.symm⟩ (by dsimp only; omega))
    · rw [← hi1]; kernel_rfl
    · kernel_rfl
  · conv => whnf
    split
    rotate_left
    · rename_i h3; have h3 : ¬ (i : Int) < m := by rw [← hm]; exact of_decide_eq_false h3
      refine Eq.mp ?_ (hend h3)
      kernel_rfl
    rename_i h3; have h3 : (i : Int) < m := by rw [← hm]; exact of_decide_eq_true h3
    conv => whnf
    refine ⟨l, rfl, hl, ?_⟩
    conv => whnf
    refine ⟨fits_at (ys' := [rqC (pickL (slotAt l i) l)]) (by kernel_rfl) (fits_16 rfl (Nat.le_trans (Nat.le_of_eq hcl) hi16) _ (by kernel_rfl)), ?_⟩
    conv => whnf
    refine R_at ?_ ?_ (hR (i + 1, (x :: xs) ++ [pickL (slotAt l i) l]) ⟨by omega, hnext.symm⟩ (by dsimp only; omega))
    · rw [← hi1]; kernel_rfl
    · show _ = rowHp (rqCL ((x :: xs) ++ [pickL (slotAt l i) l]))
      rw [show rqCL ((x :: xs) ++ [pickL (slotAt l i) l]) = rqCL (x :: xs) ++ [rqC (pickL (slotAt l i) l)] by simp [rqCL]]
      kernel_rfl
set_option maxRecDepth 100000 in
theorem spicks {T : Tab} (hT : TGood Tryz.prog T) : SGood Tryz.prog 19 (pureT gpicks) := pureT_good gpicks_det fun args Q h => by
  unfold gpicks at h
  split at h
  · obtain ⟨l, rfl, hl, hQ⟩ := h
    have t0 := ext_good hT (slow hT)
    have t1 := ext_good t0 (shigh t0)
    exact body_pure (ext_good t1 (spick t1)) mixedT Tryz.func19 (entersOf Tryz.func19 (by kernel_rfl) rfl) 17 (fpicks_ok l hl T Q hQ 17 (by omega))
  · exact h.elim
end Go.Abs

/-
ballot.Right, Quorum, choose.All without reports, the chapter's example, ChooseNames are what they come to.
-/
namespace Go.Abs
open Go Go.Proofs

def rightB (n : Int) : Bool := decide (n ≥ 4) && (decide (n ≤ 16) && (n.tmod 3 == 1))
def grt : GSpec := fun args K => match args with
  | [.int .i64 n] => K (.ret (.bool (rightB n)))
  | _ => False
theorem grt_det (args : List AV) : Det (grt args) := by
  unfold grt
  repeat' (first | exact Det.no | exact Det.at _ | refine Det.and ?_ | refine Det.ex fun _ => ?_ | refine Det.cond ?_ ?_ | split)
theorem grt_flat (args : List AV) (o : AOut) (h : grt args (· = o)) : flatO o = true := by
  unfold grt at h
  split at h
  · cases h; rfl
  · exact h.elim
set_option maxRecDepth 100000 in
set_option maxHeartbeats 4000000 in
theorem frt_ok (n : Int) (T : Tab) (Q : AOut → Prop) (hQ : Q (.ret (.bool (rightB n)))) (N : Nat) :
    abody Tryz.prog T 0 N Tryz.f31 [.int .i64 n] [] (fun out Hs => Q (frzO Hs out)) := by
  unfold rightB at hQ
  conv => whnf
  cases h1 : decide (n ≥ 4) with
  | false =>
    rw [h1] at hQ
    conv => whnf
    refine Eq.mp ?_ hQ
    kernel_rfl
  | true =>
    rw [h1] at hQ
    conv => whnf
    cases h2 : decide (n ≤ 16) with
    | false =>
      rw [h2] at hQ
      conv => whnf
      refine Eq.mp ?_ hQ
      kernel_rfl
    | true =>
      rw [h2] at hQ
      conv => whnf
      refine Eq.mp ?_ hQ
      kernel_rfl
set_option maxRecDepth 100000 in
theorem srt {T : Tab} (hT : TGood Tryz.prog T) : SGood Tryz.prog 31 (flatT grt) := flatT_good grt_det grt_flat fun args Q h => by
  unfold grt at h
  split at h
  · exact body_pure hT mixedT Tryz.func31 (entersOf Tryz.func31 (by kernel_rfl) rfl) 0 (frt_ok _ T Q h 0)
  · exact h.elim

def timesI (n k more : Int) : Int := cond (rightB n) (IntKind.i64.wrap (IntKind.i64.wrap (IntKind.i64.wrap (n.tdiv 3) * k) + more)) 0
def gtm : GSpec := fun args K => match args with
  | [.int .i64 n, .int .i64 k, .int .i64 m] => K (.ret (.int .i64 (timesI n k m)))
  | _ => False
theorem gtm_det (args : List AV) : Det (gtm args) := by
  unfold gtm
  repeat' (first | exact Det.no | exact Det.at _ | refine Det.and ?_ | refine Det.ex fun _ => ?_ | refine Det.cond ?_ ?_ | split)
theorem gtm_flat (args : List AV) (o : AOut) (h : gtm args (· = o)) : flatO o = true := by
  unfold gtm at h
  split at h
  · cases h; rfl
  · exact h.elim
set_option maxRecDepth 100000 in
set_option maxHeartbeats 4000000 in
theorem ftm_ok (n k m : Int) (T : Tab) (Q : AOut → Prop) (hQ : Q (.ret (.int .i64 (timesI n k m)))) (N : Nat) :
    abody Tryz.prog (ext T 31 (flatT grt)) 0 N Tryz.f82 [.int .i64 n, .int .i64 k, .int .i64 m] [] (fun out Hs => Q (frzO Hs out)) := by
  unfold timesI at hQ
  conv => whnf
  generalize rightB n = b at hQ ⊢
  cases b
  all_goals
    conv => whnf
    refine Eq.mp ?_ hQ
    kernel_rfl
set_option maxRecDepth 100000 in
theorem stm {T : Tab} (hT : TGood Tryz.prog T) : SGood Tryz.prog 82 (flatT gtm) := flatT_good gtm_det gtm_flat fun args Q h => by
  unfold gtm at h
  split at h
  · exact body_pure (ext_good hT (srt hT)) mixedT Tryz.func82 (entersOf Tryz.func82 (by kernel_rfl) rfl) 0 (ftm_ok _ _ _ T Q h 0)
  · exact h.elim

def gqu : GSpec := fun args K => match args with
  | [.int .i64 n] => K (.ret (.int .i64 (timesI n 2 1)))
  | _ => False
theorem gqu_det (args : List AV) : Det (gqu args) := by
  unfold gqu
  repeat' (first | exact Det.no | exact Det.at _ | refine Det.and ?_ | refine Det.ex fun _ => ?_ | refine Det.cond ?_ ?_ | split)
theorem gqu_flat (args : List AV) (o : AOut) (h : gqu args (· = o)) : flatO o = true := by
  unfold gqu at h
  split at h
  · cases h; rfl
  · exact h.elim
set_option maxRecDepth 100000 in
theorem fqu_ok (n : Int) (T : Tab) (Q : AOut → Prop) (hQ : Q (.ret (.int .i64 (timesI n 2 1)))) (N : Nat) :
    abody Tryz.prog (ext T 82 (flatT gtm)) 0 N Tryz.f45 [.int .i64 n] [] (fun out Hs => Q (frzO Hs out)) := by
  refine Eq.mp ?_ hQ
  kernel_rfl
set_option maxRecDepth 100000 in
theorem squ {T : Tab} (hT : TGood Tryz.prog T) : SGood Tryz.prog 45 (flatT gqu) := flatT_good gqu_det gqu_flat fun args Q h => by
  unfold gqu at h
  split at h
  · exact body_pure (ext_good hT (stm hT)) mixedT Tryz.func45 (entersOf Tryz.func45 (by kernel_rfl) rfl) 0 (fqu_ok _ T Q h 0)
  · exact h.elim

/-! ### chooseAlive -/
def exq : RqV := ⟨1, 2, [], []⟩
def exl : List RpV := [⟨⟨0, 0⟩, 0, 0, [], [], [], []⟩, ⟨⟨0, 0⟩, 0, 4, [], [], [⟨6, ⟨0, 0⟩, exq, []⟩], []⟩]
theorem exl_ok : okRL exl := by
  refine ⟨by decide, fun r hr => ?_⟩
  simp only [exl, List.mem_cons, List.not_mem_nil, or_false] at hr
  rcases hr with rfl | rfl
  · exact ⟨by simp, fun p hp => by cases hp⟩
  · refine ⟨by simp, fun p hp => ?_⟩
    simp only [List.mem_cons, List.not_mem_nil, or_false] at hp
    subst hp
    exact ⟨⟨fun b h => (by cases h), by simp [exq]⟩, ⟨fun b h => (by cases h), by simp [exq]⟩⟩
theorem exl_picks : picksL exl = [zRq, exq] := by kernel_rfl
theorem exq_ok : okR exq := ⟨⟨fun b h => (by cases h), by simp [exq]⟩, ⟨fun b h => (by cases h), by simp [exq]⟩⟩
theorem exq_eq : rqEq exq exq = true := by kernel_rfl

def galive : GSpec := fun args K => match args with
  | [] => K (.ret (.bool true))
  | _ => False
theorem galive_det (args : List AV) : Det (galive args) := by
  unfold galive
  repeat' (first | exact Det.no | exact Det.at _ | refine Det.and ?_ | refine Det.ex fun _ => ?_ | refine Det.cond ?_ ?_ | split)
theorem galive_flat (args : List AV) (o : AOut) (h : galive args (· = o)) : flatO o = true := by
  unfold galive at h
  split at h
  · cases h; rfl
  · exact h.elim
set_option maxRecDepth 100000 in
set_option maxHeartbeats 4000000 in
theorem falive_ok (T : Tab) (Q : AOut → Prop) (hQ : Q (.ret (.bool true))) (N : Nat) :
    abody Tryz.prog (ext (ext T 19 (pureT gpicks)) 21 (flatT g25)) 0 N Tryz.f8 [] [] (fun out Hs => Q (frzO Hs out)) := by
  conv => whnf
  refine ⟨exl, by kernel_rfl, exl_ok, ?_⟩
  rw [exl_picks]
  conv => whnf
  refine ⟨[], ?_⟩
  conv => whnf
  refine ⟨by decide, by show (0 : Int) < 2; decide, rqC zRq, rfl, by kernel_rfl, ?_⟩
  conv => whnf
  repeat (refine ⟨rfl, ?_⟩; conv => whnf)
  refine ⟨by decide, by show (1 : Int) < 2; decide, rqC exq, rfl, by kernel_rfl, ?_⟩
  conv => whnf
  repeat (refine ⟨rfl, ?_⟩; conv => whnf)
  refine ⟨exq, exq, rfl, rfl, exq_ok, exq_ok, ?_⟩
  rw [exq_eq]
  conv => whnf
  repeat (refine ⟨rfl, ?_⟩; conv => whnf)
  refine Eq.mp ?_ hQ
  kernel_rfl
set_option maxRecDepth 100000 in
theorem salive {T : Tab} (hT : TGood Tryz.prog T) : SGood Tryz.prog 8 (flatT galive) := flatT_good galive_det galive_flat fun args Q h => by
  unfold galive at h
  split at h
  · have t0 := ext_good hT (spicks hT)
    exact body_pure (ext_good t0 (s25 t0)) mixedT Tryz.func8 (entersOf Tryz.func8 (by kernel_rfl) rfl) 0 (falive_ok T Q h 0)
  · exact h.elim

end Go.Abs

/-
catenaryref04.Faults, Right, Quorum, Compare are what they come to.
-/
namespace Go.Abs
open Go Go.Proofs

def faultsI (n : Int) : Int := cond (n == 4) 1 (cond (n == 7) 2 (cond (n == 10) 3 (cond (n == 13) 4 (cond (n == 16) 5 0))))
theorem faults_right (n : Int) : decide (faultsI n > 0) = rightB n := by
  unfold faultsI rightB
  by_cases h : n = 4 ∨ n = 7 ∨ n = 10 ∨ n = 13 ∨ n = 16
  · rcases h with rfl | rfl | rfl | rfl | rfl <;> rfl
  · have e : ∀ c : Int, ¬ n = c → (n == c) = false := fun c hc => beq_eq_false_iff_ne.2 hc
    rw [e 4 (by omega), e 7 (by omega), e 10 (by omega), e 13 (by omega), e 16 (by omega)]
    simp only [_root_.cond_false]
    by_cases h1 : n ≥ 4
    · by_cases h2 : n ≤ 16
      · have h3 : n.tmod 3 ≠ 1 := by rw [Int.tmod_eq_emod_of_nonneg (by omega)]; omega
        rw [beq_eq_false_iff_ne.2 h3]; simp
      · simp [h2]
    · simp [h1]
theorem faults_quorum (n : Int) : cond (rightB n) (IntKind.i64.wrap (IntKind.i64.wrap (2 * faultsI n) + 1)) 0 = timesI n 2 1 := by
  unfold timesI
  rw [← faults_right]
  unfold faultsI
  by_cases h : n = 4 ∨ n = 7 ∨ n = 10 ∨ n = 13 ∨ n = 16
  · rcases h with rfl | rfl | rfl | rfl | rfl <;> rfl
  · have e : ∀ c : Int, ¬ n = c → (n == c) = false := fun c hc => beq_eq_false_iff_ne.2 hc
    rw [e 4 (by omega), e 7 (by omega), e 10 (by omega), e 13 (by omega), e 16 (by omega)]
    rfl

def gfa : GSpec := fun args K => match args with
  | [.int .i64 n] => K (.ret (.int .i64 (faultsI n)))
  | _ => False
theorem gfa_det (args : List AV) : Det (gfa args) := by
  unfold gfa
  repeat' (first | exact Det.no | exact Det.at _ | refine Det.and ?_ | refine Det.ex fun _ => ?_ | refine Det.cond ?_ ?_ | split)
theorem gfa_flat (args : List AV) (o : AOut) (h : gfa args (· = o)) : flatO o = true := by
  unfold gfa at h
  split at h
  · cases h; rfl
  · exact h.elim

set_option maxRecDepth 100000 in
set_option maxHeartbeats 4000000 in
theorem ffa_ok (n : Int) (T : Tab) (Q : AOut → Prop) (hQ : Q (.ret (.int .i64 (faultsI n)))) (N : Nat) :
    abody Tryz.prog T 0 (N + 6) Tryz.f76 [.int .i64 n] [] (fun out Hs => Q (frzO Hs out)) := by
  unfold faultsI at hQ
  conv => whnf
  split
  · rename_i h; have h : (n == 4) = true := h
    rw [h] at hQ
    conv => whnf
    refine Eq.mp ?_ hQ
    kernel_rfl
  rename_i h; have h : (n == 4) = false := h
  rw [h] at hQ
  conv => whnf
  split
  · rename_i h; have h : (n == 7) = true := h
    rw [h] at hQ
    conv => whnf
    refine Eq.mp ?_ hQ
    kernel_rfl
  rename_i h; have h : (n == 7) = false := h
  rw [h] at hQ
  conv => whnf
  split
  · rename_i h; have h : (n == 10) = true := h
    rw [h] at hQ
    conv => whnf
    refine Eq.mp ?_ hQ
    kernel_rfl
  rename_i h; have h : (n == 10) = false := h
  rw [h] at hQ
  conv => whnf
  split
  · rename_i h; have h : (n == 13) = true := h
    rw [h] at hQ
    conv => whnf
    refine Eq.mp ?_ hQ
    kernel_rfl
  rename_i h; have h : (n == 13) = false := h
  rw [h] at hQ
  conv => whnf
  split
  · rename_i h; have h : (n == 16) = true := h
    rw [h] at hQ
    conv => whnf
    refine Eq.mp ?_ hQ
    kernel_rfl
  rename_i h; have h : (n == 16) = false := h
  rw [h] at hQ
  conv => whnf
  refine Eq.mp ?_ hQ
  kernel_rfl
set_option maxRecDepth 100000 in
theorem sfa {T : Tab} (hT : TGood Tryz.prog T) : SGood Tryz.prog 76 (flatT gfa) := flatT_good gfa_det gfa_flat fun args Q h => by
  unfold gfa at h
  split at h
  · skip
    exact body_pure hT mixedT Tryz.func76 (entersOf Tryz.func76 (by kernel_rfl) rfl) 6 (ffa_ok _ T Q h 0)
  · exact h.elim

set_option maxRecDepth 100000 in
theorem frd_ok (n : Int) (T : Tab) (Q : AOut → Prop) (hQ : Q (.ret (.bool (rightB n)))) (N : Nat) :
    abody Tryz.prog (ext T 76 (flatT gfa)) 0 N Tryz.f38 [.int .i64 n] [] (fun out Hs => Q (frzO Hs out)) := by
  rw [← faults_right] at hQ
  refine Eq.mp ?_ hQ
  kernel_rfl
set_option maxRecDepth 100000 in
theorem srd {T : Tab} (hT : TGood Tryz.prog T) : SGood Tryz.prog 38 (flatT grt) := flatT_good grt_det grt_flat fun args Q h => by
  unfold grt at h
  split at h
  · skip
    have t0 := ext_good hT (sfa hT)
    exact body_pure t0 mixedT Tryz.func38 (entersOf Tryz.func38 (by kernel_rfl) rfl) 0 (frd_ok _ T Q h 0)
  · exact h.elim

set_option maxRecDepth 100000 in
set_option maxHeartbeats 4000000 in
theorem fqd_ok (n : Int) (T : Tab) (Q : AOut → Prop) (hQ : Q (.ret (.int .i64 (timesI n 2 1)))) (N : Nat) :
    abody Tryz.prog (ext (ext T 76 (flatT gfa)) 38 (flatT grt)) 0 N Tryz.f46 [.int .i64 n] [] (fun out Hs => Q (frzO Hs out)) := by
  rw [← faults_quorum] at hQ
  conv => whnf
  generalize faultsI n = f at hQ ⊢
  generalize rightB n = b at hQ ⊢
  cases b
  all_goals
    conv => whnf
    refine Eq.mp ?_ hQ
    kernel_rfl
set_option maxRecDepth 100000 in
theorem sqd {T : Tab} (hT : TGood Tryz.prog T) : SGood Tryz.prog 46 (flatT gqu) := flatT_good gqu_det gqu_flat fun args Q h => by
  unfold gqu at h
  split at h
  · skip
    have t0 := ext_good hT (sfa hT)
    have t1 := ext_good t0 (srd t0)
    exact body_pure t1 mixedT Tryz.func46 (entersOf Tryz.func46 (by kernel_rfl) rfl) 0 (fqd_ok _ T Q h 0)
  · exact h.elim

theorem cmpB_cases (a b c d : Int) : cmpB ⟨a, b⟩ ⟨c, d⟩ = if a < c then -1 else if a > c then 1 else if b < d then -1 else if b > d then 1 else 0 := by
  unfold cmpB orI cmpI
  dsimp only
  split
  · rfl
  · split
    · rfl
    · rfl
set_option maxRecDepth 100000 in
set_option maxHeartbeats 4000000 in
theorem fcd_ok (a b c d : Int) (T : Tab) (Q : AOut → Prop) (hQ : Q (.ret (.int .i64 (cmpB ⟨a, b⟩ ⟨c, d⟩)))) (N : Nat) :
    abody Tryz.prog T 0 N Tryz.f41 [.agg [.int .i64 a, .int .i64 b], .agg [.int .i64 c, .int .i64 d]] [] (fun out Hs => Q (frzO Hs out)) := by
  rw [cmpB_cases] at hQ
  conv => whnf
  split
  · rename_i h; have h : a < c := of_decide_eq_true h
    rw [if_pos h] at hQ
    refine Eq.mp ?_ hQ
    kernel_rfl
  rename_i h; have h : ¬ a < c := of_decide_eq_false h
  rw [if_neg h] at hQ
  conv => whnf
  split
  · rename_i h; have h : a > c := of_decide_eq_true h
    rw [if_pos h] at hQ
    refine Eq.mp ?_ hQ
    kernel_rfl
  rename_i h; have h : ¬ a > c := of_decide_eq_false h
  rw [if_neg h] at hQ
  conv => whnf
  split
  · rename_i h; have h : b < d := of_decide_eq_true h
    rw [if_pos h] at hQ
    refine Eq.mp ?_ hQ
    kernel_rfl
  rename_i h; have h : ¬ b < d := of_decide_eq_false h
  rw [if_neg h] at hQ
  conv => whnf
  split
  · rename_i h; have h : b > d := of_decide_eq_true h
    rw [if_pos h] at hQ
    refine Eq.mp ?_ hQ
    kernel_rfl
  rename_i h; have h : ¬ b > d := of_decide_eq_false h
  rw [if_neg h] at hQ
  conv => whnf
  refine Eq.mp ?_ hQ
  kernel_rfl
set_option maxRecDepth 100000 in
theorem scd {T : Tab} (hT : TGood Tryz.prog T) : SGood Tryz.prog 41 (flatT gcb) := flatT_good gcb_det gcb_flat fun args Q h => by
  unfold gcb at h
  split at h
  · skip
    exact body_pure hT mixedT Tryz.func41 (entersOf Tryz.func41 (by kernel_rfl) rfl) 0 (fcd_ok _ _ _ _ T Q h 0)
  · exact h.elim

end Go.Abs

/-
key.Client; the document's Nums, parts, Verify, Right; vote.asked, Asked, the document's Ask, Asked are what they come to.
-/
namespace Go.Abs
open Go Go.Proofs

def cliK (j : Int) : Int := cond (decide (j < 1) || decide (j > 27)) (-1) (IntKind.i64.wrap (100 + j))

def gcl : GSpec := fun args K => match args with
  | [.int .i64 j] => K (.ret (.int .i64 (cliK j)))
  | _ => False
theorem gcl_det (args : List AV) : Det (gcl args) := by
  unfold gcl
  repeat' (first | exact Det.no | exact Det.at _ | refine Det.and ?_ | refine Det.ex fun _ => ?_ | refine Det.cond ?_ ?_ | split)
theorem gcl_flat (args : List AV) (o : AOut) (h : gcl args (· = o)) : flatO o = true := by
  unfold gcl at h
  split at h
  · cases h; rfl
  · exact h.elim

set_option maxRecDepth 100000 in
set_option maxHeartbeats 4000000 in
theorem fcl_ok (j : Int) (T : Tab) (Q : AOut → Prop) (hQ : Q (.ret (.int .i64 (cliK j)))) (N : Nat) :
    abody Tryz.prog T 0 N Tryz.f124 [.int .i64 j] [] (fun out Hs => Q (frzO Hs out)) := by
  unfold cliK at hQ
  conv => whnf
  cases h1 : decide (j < 1) with
  | true =>
    rw [h1] at hQ
    conv => whnf
    refine Eq.mp ?_ hQ
    kernel_rfl
  | false =>
    rw [h1] at hQ
    conv => whnf
    cases h2 : decide (j > 27) with
    | true =>
      rw [h2] at hQ
      conv => whnf
      refine Eq.mp ?_ hQ
      kernel_rfl
    | false =>
      rw [h2] at hQ
      conv => whnf
      refine Eq.mp ?_ hQ
      kernel_rfl
set_option maxRecDepth 100000 in
theorem scl {T : Tab} (hT : TGood Tryz.prog T) : SGood Tryz.prog 124 (flatT gcl) := flatT_good gcl_det gcl_flat fun args Q h => by
  unfold gcl at h
  split at h
  · skip
    exact body_pure hT mixedT Tryz.func124 (entersOf Tryz.func124 (by kernel_rfl) rfl) 0 (fcl_ok _ T Q h 0)
  · exact h.elim

theorem cliK_doc (j : Int) : cliK j = cond (decide (j ≥ 1) && decide (j ≤ 27)) (IntKind.i64.wrap (100 + j)) (-1) := by
  unfold cliK
  by_cases h1 : j < 1
  · have : ¬ j ≥ 1 := by omega
    simp [h1, this]
  · by_cases h2 : j > 27
    · have : ¬ j ≤ 27 := by omega
      simp [h1, h2, this]
    · have a : j ≥ 1 := by omega
      have b : j ≤ 27 := by omega
      simp [h1, h2, a, b]
set_option maxRecDepth 100000 in
set_option maxHeartbeats 4000000 in
theorem fcld_ok (j : Int) (T : Tab) (Q : AOut → Prop) (hQ : Q (.ret (.int .i64 (cliK j)))) (N : Nat) :
    abody Tryz.prog T 0 N Tryz.f134 [.int .i64 j] [] (fun out Hs => Q (frzO Hs out)) := by
  rw [cliK_doc] at hQ
  conv => whnf
  cases h1 : decide (j ≥ 1) with
  | false =>
    rw [h1] at hQ
    conv => whnf
    refine Eq.mp ?_ hQ
    kernel_rfl
  | true =>
    rw [h1] at hQ
    conv => whnf
    cases h2 : decide (j ≤ 27) with
    | false =>
      rw [h2] at hQ
      conv => whnf
      refine Eq.mp ?_ hQ
      kernel_rfl
    | true =>
      rw [h2] at hQ
      conv => whnf
      refine Eq.mp ?_ hQ
      kernel_rfl
set_option maxRecDepth 100000 in
theorem scld {T : Tab} (hT : TGood Tryz.prog T) : SGood Tryz.prog 134 (flatT gcl) := flatT_good gcl_det gcl_flat fun args Q h => by
  unfold gcl at h
  split at h
  · skip
    exact body_pure hT mixedT Tryz.func134 (entersOf Tryz.func134 (by kernel_rfl) rfl) 0 (fcld_ok _ T Q h 0)
  · exact h.elim

def numsD (xs : List Int) : List Int := (xs.map fun x => le8' x 8).flatten
theorem numsD_eq (xs : List Int) : numsD xs = numsL xs := by
  unfold numsD numsL
  congr 1
  exact List.map_congr_left fun x _ => le8_eq x 8 (Nat.le_refl _)
theorem numsD_len (xs : List Int) : (numsD xs).length = 8 * xs.length := by rw [numsD_eq, numsL_len]
theorem numsD_take {xs : List Int} {i : Nat} {x : Int} (h : xs[i]? = some x) : numsD (xs.take (i + 1)) = numsD (xs.take i) ++ le8' x 8 := by
  unfold numsD
  rw [List.take_add_one, h]
  simp

set_option maxRecDepth 100000 in
set_option maxHeartbeats 8000000 in
theorem fnd_ok (xs : List Int) (hx : xs.length ≤ 1000) (T : Tab) (Q : AOut → Prop) (hQ : Q (.ret (.slice (bsA (numsD xs))))) (N : Nat) (hN : xs.length < N) (hN8 : 8 < N) :
    abody Tryz.prog T 0 N Tryz.f135 [.slice (intsA xs)] [] (fun out Hs => Q (frzO Hs out)) := by
  have hxl : (intsA xs).length = xs.length := intsA_length xs
  conv => whnf
  refine aloop_at ?_ ?_ (aloop_inv (σ := Nat × List (List AV)) (fun s => ((sp 0 31 [(3, accV s.2), (9, .slice (intsA xs)), (10, .int .i64 (intsA xs).length), (11, .int .i64 (s.1 : Nat))]), accH s.2))
    (fun s => s.1 ≤ xs.length ∧ s.2 = bsA (numsD (xs.take s.1))) (fun s => xs.length - s.1) ?_ N (0, []) ⟨Nat.zero_le _, by simp [numsD, bsA]⟩ (by dsimp only; omega))
  · kernel_rfl
  · kernel_rfl
  rintro ⟨i, acc⟩ ⟨hi, hacc⟩ R hR
  dsimp only at hi hacc
  have hlen0 : acc.length = 8 * min i xs.length := by rw [hacc, bsA_length, numsD_len, List.length_take]
  have hi1 : IntKind.i64.wrap ((i : Int) + 1) = ((i + 1 : Nat) : Int) := by rw [IntWalk.i64_in _ (by omega)]; omega
  have hout0 : i = xs.length → acc = bsA (numsD xs) := fun h => by rw [hacc, h, List.take_length]
  have hin : ∀ x, acc = bsA (numsD (xs.take i) ++ le8' x 0) := fun x => by simp [le8', hacc]
  clear hacc
  rcases acc with _ | ⟨y, ys⟩
  all_goals
    conv => whnf
    split
    rotate_left
    · rename_i h2; have h2 := of_decide_eq_false h2
      rw [hxl] at h2
      have hil : i = xs.length := by omega
      rw [← hout0 hil] at hQ
      conv => whnf
      refine Eq.mp ?_ hQ
      kernel_rfl
    rename_i h2; have h2 := of_decide_eq_true h2
    rw [hxl] at h2
    obtain ⟨x, hxi⟩ : ∃ x, xs[i]? = some x := ⟨_, List.getElem?_eq_getElem (by omega)⟩
    have hget : (intsA xs)[((i : Nat) : Int).toNat]? = some [.int .i64 x] := by
      rw [Int.toNat_natCast]; simp [intsA, hxi]
    have hnx := numsD_take hxi
    conv => whnf
    refine ⟨by omega, by rw [hxl]; omega, [.int .i64 x], hget, by kernel_rfl, ?_⟩
    conv => whnf
    refine aloop_at ?_ ?_ (aloop_inv (σ := Nat × List (List AV)) (fun s => ((sp 0 31 [(3, accV s.2), (6, .int .u64 (quoOf x s.1)), (7, .int .i64 (s.1 : Nat)), (9, .slice (intsA xs)), (10, .int .i64 (intsA xs).length), (11, .int .i64 (i : Nat))]), accH s.2))
      (fun s => s.1 ≤ 8 ∧ s.2 = bsA (numsD (xs.take i) ++ le8' x s.1)) (fun s => 8 - s.1) ?_ N (0, _) ⟨Nat.zero_le _, hin x⟩ (by dsimp only; omega))
    · kernel_rfl
    · kernel_rfl
    rintro ⟨j, ac⟩ ⟨hj, hac⟩ R2 hR2
    dsimp only at hj hac
    have hlen : ac.length = 8 * min i xs.length + j := by rw [hac, bsA_length, List.length_append, numsD_len, List.length_take, le8'_len]
    have hnext : ac ++ bsA [byteOf' x j] = bsA (numsD (xs.take i) ++ le8' x (j + 1)) := by rw [hac, ← bsA_append, List.append_assoc]; rfl
    have hel : ∀ el ∈ ac, el.length = 1 := by rw [hac]; exact fun el hel => bsA_el hel
    have hout : j = 8 → ac = bsA (numsD (xs.take (i + 1))) := fun h => by rw [hac, h, hnx]
    clear hac
    have hj1 : IntKind.i64.wrap ((j : Int) + 1) = ((j + 1 : Nat) : Int) := by rw [IntWalk.i64_in _ (by omega)]; omega
    rcases ac with _ | ⟨z, zs⟩
    all_goals
      conv => whnf
      split
      rotate_left
      · rename_i h3
        have h3 : ¬ (j : Int) < 8 := of_decide_eq_false h3
        have h8 : j = 8 := by omega
        conv => whnf
        have hR3 := hR (i + 1, _) ⟨by dsimp only; omega, hout h8⟩ (by dsimp only; omega)
        dsimp only at hR3
        rw [← hi1] at hR3
        refine R_at ?_ ?_ hR3
        · kernel_rfl
        · kernel_rfl
      rename_i h3
      have h3 : (j : Int) < 8 := of_decide_eq_true h3
      conv => whnf
      refine ⟨fits_at (ys' := bsA [byteOf' x j]) (by kernel_rfl) (fits_bs (by rw [List.length_singleton]; first | omega | (dsimp only; omega))), ?_⟩
      conv => whnf
      have hR3 := hR2 (j + 1, _ ++ bsA [byteOf' x j]) ⟨by dsimp only; omega, hnext⟩ (by dsimp only; omega)
      dsimp only at hR3
      rw [← hj1] at hR3
      refine R_at ?_ ?_ hR3
      · kernel_rfl
      · kernel_rfl


set_option maxRecDepth 100000 in
theorem snd {T : Tab} (hT : TGood Tryz.prog T) : SGood Tryz.prog 135 (pureT g137) := pureT_good g137_det fun args Q h => by
  unfold g137 at h
  split at h
  · obtain ⟨xs, rfl, hx, hQ⟩ := h
    rw [← numsD_eq] at hQ
    exact body_pure hT mixedT Tryz.func135 (entersOf Tryz.func135 (by kernel_rfl) rfl) (xs.length + 9) (fnd_ok xs hx T Q hQ _ (by omega) (by omega))
  · exact h.elim

def gpt : GSpec := fun args K => match args with
  | [.int .i64 kind, .agg [.int .i64 view, .int .i64 turn], .int .i64 slot, .slice es] => ∃ body : List Int, es = bsA body ∧ K (.ret (.slice (partsA (voteP kind view turn slot body))))
  | _ => False
theorem gpt_det (args : List AV) : Det (gpt args) := by
  unfold gpt
  repeat' (first | exact Det.no | exact Det.at _ | refine Det.and ?_ | refine Det.ex fun _ => ?_ | refine Det.cond ?_ ?_ | split)

set_option maxRecDepth 100000 in
theorem fpt_ok (kind view turn slot : Int) (body : List Int) (T : Tab) (Q : AOut → Prop) (hQ : Q (.ret (.slice (partsA (voteP kind view turn slot body))))) (N : Nat) :
    abody Tryz.prog (ext T 135 (pureT g137)) 0 N Tryz.f120 [.int .i64 kind, .agg [.int .i64 view, .int .i64 turn], .int .i64 slot, .slice (bsA body)] [] (fun out Hs => Q (frzO Hs out)) := by
  conv => whnf
  refine ⟨[kind, view, turn, slot], by kernel_rfl, by show 4 ≤ 1000; decide, ?_⟩
  conv => whnf
  refine Eq.mp ?_ hQ
  kernel_rfl
set_option maxRecDepth 100000 in
theorem spt {T : Tab} (hT : TGood Tryz.prog T) : SGood Tryz.prog 120 (pureT gpt) := pureT_good gpt_det fun args Q h => by
  unfold gpt at h
  split at h
  · skip
    obtain ⟨body, rfl, hQ⟩ := h
    have t0 := ext_good hT (snd hT)
    exact body_pure t0 mixedT Tryz.func120 (entersOf Tryz.func120 (by kernel_rfl) rfl) 0 (fpt_ok _ _ _ _ body T Q hQ 0)
  · exact h.elim

set_option maxRecDepth 100000 in
set_option maxHeartbeats 4000000 in
theorem fvd_ok (k : Int) (sg : List Int) (s : ByteArray) (ps : List (List Int)) (hsg : okB sg) (hp : okP ps) (hs : s.size ≤ 1000) (T : Tab) (Q : AOut → Prop) (hQ : Q (.ret (.bool (verK k sg s ps)))) (N : Nat) :
    abody Tryz.prog (ext (ext T 133 (pureT (txtG signK))) 25 (flatT g18)) 0 N Tryz.f118 [.int .i64 k, .slice (bsA sg), .str s, .slice (partsA ps)] [] (fun out Hs => Q (frzO Hs out)) := by
  have hso := signK_ok k s ps
  unfold verK rightK at hQ
  conv => whnf
  cases h1 : decide (k ≥ 0) with
  | false =>
    rw [h1] at hQ
    conv => whnf
    refine Eq.mp ?_ hQ
    kernel_rfl
  | true =>
    rw [h1] at hQ
    conv => whnf
    cases h2 : decide (k ≤ 127) with
    | false =>
      rw [h2] at hQ
      conv => whnf
      refine Eq.mp ?_ hQ
      kernel_rfl
    | true =>
      rw [h2] at hQ
      conv => whnf
      refine ⟨ps, rfl, hp, hs, ?_⟩
      generalize signK k s ps = sk at hQ hso ⊢
      conv => whnf
      refine ⟨sg, sk, rfl, rfl, hsg, hso, ?_⟩
      conv => whnf
      refine Eq.mp ?_ hQ
      kernel_rfl
set_option maxRecDepth 100000 in
theorem svd {T : Tab} (hT : TGood Tryz.prog T) : SGood Tryz.prog 118 (flatT g138) := flatT_good g138_det g138_flat fun args Q h => by
  unfold g138 at h
  split at h
  · skip
    obtain ⟨sg, ps, rfl, rfl, hsg, hp, hs, hQ⟩ := h
    have t0 := ext_good hT (s75 hT)
    have t1 := ext_good t0 (s18 t0)
    exact body_pure t1 mixedT Tryz.func118 (entersOf Tryz.func118 (by kernel_rfl) rfl) 0 (fvd_ok _ sg _ ps hsg hp hs T Q hQ 0)
  · exact h.elim

set_option maxRecDepth 100000 in
set_option maxHeartbeats 4000000 in
theorem frr_ok (kind view turn slot signer : Int) (body sg : List Int) (hp : okP (voteP kind view turn slot body)) (hsg : okB sg) (T : Tab) (Q : AOut → Prop) (hQ : Q (.ret (.bool (verK (replK signer) sg voteS (voteP kind view turn slot body))))) (N : Nat) :
    abody Tryz.prog (ext (ext (ext T 119 (flatT g120)) 120 (pureT gpt)) 118 (flatT g138)) 0 N Tryz.f68 [.int .i64 kind, .agg [.int .i64 view, .int .i64 turn], .int .i64 slot, .slice (bsA body), .agg [.int .i64 signer, .slice (bsA sg)]] [] (fun out Hs => Q (frzO Hs out)) := by
  conv => whnf
  refine ⟨[], ?_⟩
  conv => whnf
  repeat (refine ⟨rfl, ?_⟩; conv => whnf)
  refine ⟨body, rfl, ?_⟩
  conv => whnf
  repeat (refine ⟨rfl, ?_⟩; conv => whnf)
  refine ⟨sg, voteP kind view turn slot body, rfl, rfl, hsg, hp, by decide, ?_⟩
  conv => whnf
  repeat (refine ⟨rfl, ?_⟩; conv => whnf)
  refine Eq.mp ?_ hQ
  kernel_rfl
set_option maxRecDepth 100000 in
theorem srr {T : Tab} (hT : TGood Tryz.prog T) : SGood Tryz.prog 68 (flatT g66) := flatT_good g66_det g66_flat fun args Q h => by
  unfold g66 at h
  split at h
  · skip
    obtain ⟨body, sg, rfl, rfl, hsg, hp, hQ⟩ := h
    have t0 := ext_good hT (s76 hT)
    have t1 := ext_good t0 (spt t0)
    have t2 := ext_good t1 (svd t1)
    exact body_pure t2 mixedT Tryz.func68 (entersOf Tryz.func68 (by kernel_rfl) rfl) 0 (frr_ok _ _ _ _ _ body sg hp hsg T Q hQ 0)
  · exact h.elim

end Go.Abs

