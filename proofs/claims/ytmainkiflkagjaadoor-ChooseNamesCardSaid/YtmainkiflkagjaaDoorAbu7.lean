/-
cmp.Compare, cmp.Or, ballot.Compare, choose.Low, High are what they come to.
-/
import Derived.Test.YtmainkiflkagjaaDoorAbu6
namespace Go.Abs
open Go Go.Proofs

structure BalV where
  view : Int
  turn : Int
def balC (b : BalV) : List AV := [.int .i64 b.view, .int .i64 b.turn]
structure PrV where
  slot : Int
  bal : BalV
  req : RqV
  cert : List VtV
def vtCL (l : List VtV) : List (List AV) := l.map vtC
def prC (p : PrV) : List AV := [.int .i64 p.slot, .int .i64 p.bal.view, .int .i64 p.bal.turn, .int .i64 p.req.client, .int .i64 p.req.stamp, .slice (bsA p.req.op), .slice (bsA p.req.sig), .slice (vtCL p.cert)]
def prCL (l : List PrV) : List (List AV) := l.map prC
structure RpV where
  bal : BalV
  replica : Int
  low : Int
  digest : List Int
  stable : List VtV
  preps : List PrV
  sig : List Int
def rpC (r : RpV) : List AV := [.int .i64 r.bal.view, .int .i64 r.bal.turn, .int .i64 r.replica, .int .i64 r.low, .slice (bsA r.digest), .slice (vtCL r.stable), .slice (prCL r.preps), .slice (bsA r.sig)]
def rpCL (l : List RpV) : List (List AV) := l.map rpC
def rqCL (l : List RqV) : List (List AV) := l.map rqC

def cmpI (x y : Int) : Int := if x < y then -1 else if x > y then 1 else 0
def orI (x y : Int) : Int := cond (x != 0) x y
def cmpB (a b : BalV) : Int := orI (cmpI a.view b.view) (cmpI a.turn b.turn)

def gnan : GSpec := fun args K => match args with
  | [.int .i64 _] => K (.ret (.bool false))
  | _ => False
theorem gnan_det (args : List AV) : Det (gnan args) := by
  unfold gnan
  repeat' (first | exact Det.no | exact Det.at _ | refine Det.and ?_ | refine Det.ex fun _ => ?_ | refine Det.cond ?_ ?_ | split)
theorem gnan_flat (args : List AV) (o : AOut) (h : gnan args (· = o)) : flatO o = true := by
  unfold gnan at h
  split at h
  · cases h; rfl
  · exact h.elim
set_option maxRecDepth 100000 in
theorem fnan_ok (n : Int) (T : Tab) (Q : AOut → Prop) (hQ : Q (.ret (.bool false))) (N : Nat) :
    abody Tryd.prog T 0 N Tryd.f52 [.int .i64 n] [] (fun out Hs => Q (frzO Hs out)) := by
  have e : (n != n) = false := by simp
  rw [← e] at hQ
  refine Eq.mp ?_ hQ
  kernel_rfl
set_option maxRecDepth 100000 in
theorem snan {T : Tab} (hT : TGood Tryd.prog T) : SGood Tryd.prog 52 (flatT gnan) := flatT_good gnan_det gnan_flat fun args Q h => by
  unfold gnan at h
  split at h
  · exact body_pure hT mixedT Tryd.func52 (entersOf Tryd.func52 (by kernel_rfl) rfl) 0 (fnan_ok _ T Q h 0)
  · exact h.elim

def gcmp : GSpec := fun args K => match args with
  | [.int .i64 x, .int .i64 y] => K (.ret (.int .i64 (cmpI x y)))
  | _ => False
theorem gcmp_det (args : List AV) : Det (gcmp args) := by
  unfold gcmp
  repeat' (first | exact Det.no | exact Det.at _ | refine Det.and ?_ | refine Det.ex fun _ => ?_ | refine Det.cond ?_ ?_ | split)
theorem gcmp_flat (args : List AV) (o : AOut) (h : gcmp args (· = o)) : flatO o = true := by
  unfold gcmp at h
  split at h
  · cases h; rfl
  · exact h.elim
set_option maxRecDepth 100000 in
set_option maxHeartbeats 4000000 in
theorem fcmp_ok (x y : Int) (T : Tab) (Q : AOut → Prop) (hQ : Q (.ret (.int .i64 (cmpI x y)))) (N : Nat) :
    abody Tryd.prog (ext T 52 (flatT gnan)) 0 N Tryd.f32 [.int .i64 x, .int .i64 y] [] (fun out Hs => Q (frzO Hs out)) := by
  unfold cmpI at hQ
  conv => whnf
  split
  · rename_i h; have h : x < y := of_decide_eq_true h
    rw [if_pos h] at hQ
    refine Eq.mp ?_ hQ
    kernel_rfl
  rename_i h; have h : ¬ x < y := of_decide_eq_false h
  rw [if_neg h] at hQ
  conv => whnf
  split
  · rename_i h; have h : x > y := of_decide_eq_true h
    rw [if_pos h] at hQ
    refine Eq.mp ?_ hQ
    kernel_rfl
  rename_i h; have h : ¬ x > y := of_decide_eq_false h
  rw [if_neg h] at hQ
  refine Eq.mp ?_ hQ
  kernel_rfl
set_option maxRecDepth 100000 in
theorem scmp {T : Tab} (hT : TGood Tryd.prog T) : SGood Tryd.prog 32 (flatT gcmp) := flatT_good gcmp_det gcmp_flat fun args Q h => by
  unfold gcmp at h
  split at h
  · exact body_pure (ext_good hT (snan hT)) mixedT Tryd.func32 (entersOf Tryd.func32 (by kernel_rfl) rfl) 0 (fcmp_ok _ _ T Q h 0)
  · exact h.elim

def gor : GSpec := fun args K => match args with
  | [.slice [[.int .i64 x], [.int .i64 y]]] => K (.ret (.int .i64 (orI x y)))
  | _ => False
theorem gor_det (args : List AV) : Det (gor args) := by
  unfold gor
  repeat' (first | exact Det.no | exact Det.at _ | refine Det.and ?_ | refine Det.ex fun _ => ?_ | refine Det.cond ?_ ?_ | split)
theorem gor_flat (args : List AV) (o : AOut) (h : gor args (· = o)) : flatO o = true := by
  unfold gor at h
  split at h
  · cases h; rfl
  · exact h.elim
set_option maxRecDepth 100000 in
set_option maxHeartbeats 4000000 in
theorem for_ok (x y : Int) (T : Tab) (Q : AOut → Prop) (hQ : Q (.ret (.int .i64 (orI x y)))) (N : Nat) :
    abody Tryd.prog T 0 (N + 3) Tryd.f31 [.slice [[.int .i64 x], [.int .i64 y]]] [] (fun out Hs => Q (frzO Hs out)) := by
  unfold orI at hQ
  conv => whnf
  refine ⟨by decide, by show (0 : Int) < 2; decide, [.int .i64 x], rfl, by kernel_rfl, ?_⟩
  conv => whnf
  cases h : (x != 0) with
  | true =>
    rw [h] at hQ
    conv => whnf
    refine Eq.mp ?_ hQ
    kernel_rfl
  | false =>
    rw [h] at hQ
    conv => whnf
    refine ⟨by decide, by show (1 : Int) < 2; decide, [.int .i64 y], rfl, by kernel_rfl, ?_⟩
    conv => whnf
    cases h2 : (y != 0) with
    | true =>
      conv => whnf
      refine Eq.mp ?_ hQ
      kernel_rfl
    | false =>
      have hy : y = 0 := by simpa using h2
      subst hy
      conv => whnf
      refine Eq.mp ?_ hQ
      kernel_rfl
set_option maxRecDepth 100000 in
theorem sor {T : Tab} (hT : TGood Tryd.prog T) : SGood Tryd.prog 31 (flatT gor) := flatT_good gor_det gor_flat fun args Q h => by
  unfold gor at h
  split at h
  · exact body_pure hT mixedT Tryd.func31 (entersOf Tryd.func31 (by kernel_rfl) rfl) 3 (for_ok _ _ T Q h 0)
  · exact h.elim

def gcb : GSpec := fun args K => match args with
  | [.agg [.int .i64 a, .int .i64 b], .agg [.int .i64 c, .int .i64 d]] => K (.ret (.int .i64 (cmpB ⟨a, b⟩ ⟨c, d⟩)))
  | _ => False
theorem gcb_det (args : List AV) : Det (gcb args) := by
  unfold gcb
  repeat' (first | exact Det.no | exact Det.at _ | refine Det.and ?_ | refine Det.ex fun _ => ?_ | refine Det.cond ?_ ?_ | split)
theorem gcb_flat (args : List AV) (o : AOut) (h : gcb args (· = o)) : flatO o = true := by
  unfold gcb at h
  split at h
  · cases h; rfl
  · exact h.elim
set_option maxRecDepth 100000 in
set_option maxHeartbeats 4000000 in
theorem fcb_ok (a b c d : Int) (T : Tab) (Q : AOut → Prop) (hQ : Q (.ret (.int .i64 (cmpB ⟨a, b⟩ ⟨c, d⟩)))) (N : Nat) :
    abody Tryd.prog (ext (ext T 32 (flatT gcmp)) 31 (flatT gor)) 0 N Tryd.f16 [.agg [.int .i64 a, .int .i64 b], .agg [.int .i64 c, .int .i64 d]] [] (fun out Hs => Q (frzO Hs out)) := by
  unfold cmpB at hQ
  dsimp only at hQ
  conv => whnf
  refine ⟨[10], ?_⟩
  conv => whnf
  repeat (refine ⟨rfl, ?_⟩; conv => whnf)
  refine Eq.mp ?_ hQ
  kernel_rfl
set_option maxRecDepth 100000 in
theorem scb {T : Tab} (hT : TGood Tryd.prog T) : SGood Tryd.prog 16 (flatT gcb) := flatT_good gcb_det gcb_flat fun args Q h => by
  unfold gcb at h
  split at h
  · have t0 := ext_good hT (scmp hT)
    exact body_pure (ext_good t0 (sor t0)) mixedT Tryd.func16 (entersOf Tryd.func16 (by kernel_rfl) rfl) 0 (fcb_ok _ _ _ _ T Q h 0)
  · exact h.elim

/-! ### Low, High -/
def mx (x y : Int) : Int := if x < y then y else x
def lowL (l : List RpV) (a : Int) : Int := l.foldl (fun a r => mx a r.low) a
def highP (l : List PrV) (a : Int) : Int := l.foldl (fun a p => mx a p.slot) a
def highF (l : List RpV) (a : Int) : Int := l.foldl (fun a r => highP r.preps a) a
def highL (l : List RpV) : Int := highF l (lowL l 0)
theorem drop_get {α : Type} {l : List α} {i : Nat} {x : α} (h : l[i]? = some x) : l.drop i = x :: l.drop (i + 1) := by
  obtain ⟨hi, rfl⟩ := List.getElem?_eq_some_iff.1 h
  exact List.drop_eq_getElem_cons hi

def glow : GSpec := fun args K => match args with
  | [.slice es] => ∃ l : List RpV, es = rpCL l ∧ l.length ≤ 1099511627776 ∧ K (.ret (.int .i64 (lowL l 0)))
  | _ => False
theorem glow_det (args : List AV) : Det (glow args) := by
  unfold glow
  repeat' (first | exact Det.no | exact Det.at _ | refine Det.and ?_ | refine Det.ex fun _ => ?_ | refine Det.cond ?_ ?_ | split)
theorem glow_flat (args : List AV) (o : AOut) (h : glow args (· = o)) : flatO o = true := by
  unfold glow at h
  split at h
  · obtain ⟨_, _, _, rfl⟩ := h; rfl
  · exact h.elim
set_option maxRecDepth 100000 in
set_option maxHeartbeats 4000000 in
theorem flow_ok (l : List RpV) (hl : l.length ≤ 1099511627776) (T : Tab) (Q : AOut → Prop) (hQ : Q (.ret (.int .i64 (lowL l 0)))) (N : Nat) (hN : l.length < N) :
    abody Tryd.prog T 0 N Tryd.f9 [.slice (rpCL l)] [] (fun out Hs => Q (frzO Hs out)) := by
  have hlen : (rpCL l).length = l.length := by simp [rpCL]
  conv => whnf
  refine aloop_at ?_ ?_ (aloop_inv (σ := Nat × Int) (fun s => ((sp 0 18 [(3, .int .i64 s.2), (6, .slice (rpCL l)), (7, .int .i64 ((rpCL l).length : Nat)), (8, .int .i64 (s.1 : Nat))]), []))
    (fun s => s.1 ≤ l.length ∧ lowL l 0 = lowL (l.drop s.1) s.2) (fun s => l.length - s.1) ?_ N (0, 0) ⟨Nat.zero_le _, rfl⟩ (by dsimp only; omega))
  · kernel_rfl
  · kernel_rfl
  rintro ⟨i, a⟩ ⟨i1, i2⟩ R hR
  dsimp only at i1 i2
  conv => whnf
  split
  rotate_left
  · rename_i h3; have h3 : ¬ (i : Int) < (rpCL l).length := of_decide_eq_false h3
    rw [hlen] at h3
    rw [List.drop_of_length_le (by omega)] at i2
    rw [i2] at hQ
    refine Eq.mp ?_ hQ
    kernel_rfl
  rename_i h3; have h3 : (i : Int) < (rpCL l).length := of_decide_eq_true h3
  rw [hlen] at h3
  obtain ⟨r, hr⟩ : ∃ r, l[i]? = some r := ⟨l[i]'(by omega), List.getElem?_eq_getElem (by omega)⟩
  have hra : (rpCL l)[i]? = some (rpC r) := by simp [rpCL, hr]
  rw [drop_get hr] at i2
  have hi1 : IntKind.i64.wrap ((i : Int) + 1) = ((i + 1 : Nat) : Int) := by rw [IntWalk.i64_in _ (by omega)]; omega
  conv => whnf
  refine ⟨by show (0 : Int) ≤ (i : Nat); omega, by show ((i : Nat) : Int) < ((rpCL l).length : Nat); omega, _, hra, by kernel_rfl, ?_⟩
  conv => whnf
  refine R_at ?_ ?_ (hR (i + 1, mx a r.low) ⟨by omega, i2⟩ (by dsimp only; omega))
  · rw [← hi1]; kernel_rfl
  · kernel_rfl
set_option maxRecDepth 100000 in
theorem slow {T : Tab} (hT : TGood Tryd.prog T) : SGood Tryd.prog 9 (flatT glow) := flatT_good glow_det glow_flat fun args Q h => by
  unfold glow at h
  split at h
  · obtain ⟨l, rfl, hl, hQ⟩ := h
    exact body_pure hT mixedT Tryd.func9 (entersOf Tryd.func9 (by kernel_rfl) rfl) _ (flow_ok l hl T Q hQ (l.length + 1) (Nat.lt_succ_self _))
  · exact h.elim

/-- Reports of moderate length. -/
def okRL (l : List RpV) : Prop := l.length ≤ 1099511627776 ∧ ∀ r ∈ l, r.preps.length ≤ 1099511627776 ∧ ∀ p ∈ r.preps, okR p.req
def ghigh : GSpec := fun args K => match args with
  | [.slice es] => ∃ l : List RpV, es = rpCL l ∧ okRL l ∧ K (.ret (.int .i64 (highL l)))
  | _ => False
theorem ghigh_det (args : List AV) : Det (ghigh args) := by
  unfold ghigh
  repeat' (first | exact Det.no | exact Det.at _ | refine Det.and ?_ | refine Det.ex fun _ => ?_ | refine Det.cond ?_ ?_ | split)
theorem ghigh_flat (args : List AV) (o : AOut) (h : ghigh args (· = o)) : flatO o = true := by
  unfold ghigh at h
  split at h
  · obtain ⟨_, _, _, rfl⟩ := h; rfl
  · exact h.elim
set_option maxRecDepth 100000 in
set_option maxHeartbeats 8000000 in
theorem fhigh_ok (l : List RpV) (hl : okRL l) (T : Tab) (Q : AOut → Prop) (hQ : Q (.ret (.int .i64 (highL l)))) (N : Nat) (hN : l.length < N) (hN2 : ∀ r ∈ l, r.preps.length < N) :
    abody Tryd.prog (ext T 9 (flatT glow)) 0 N Tryd.f10 [.slice (rpCL l)] [] (fun out Hs => Q (frzO Hs out)) := by
  have hlen : (rpCL l).length = l.length := by simp [rpCL]
  have hl1 := hl.1
  unfold highL at hQ
  conv => whnf
  refine ⟨l, rfl, hl1, ?_⟩
  generalize lowL l 0 = a0 at hQ ⊢
  conv => whnf
  refine aloop_at ?_ ?_ (aloop_inv (σ := Nat × Int) (fun s => ((sp 0 30 [(3, .int .i64 s.2), (10, .slice (rpCL l)), (11, .int .i64 ((rpCL l).length : Nat)), (12, .int .i64 (s.1 : Nat))]), []))
    (fun s => s.1 ≤ l.length ∧ highF l a0 = highF (l.drop s.1) s.2) (fun s => l.length - s.1) ?_ N (0, a0) ⟨Nat.zero_le _, rfl⟩ (by dsimp only; omega))
  · kernel_rfl
  · kernel_rfl
  rintro ⟨i, a⟩ ⟨i1, i2⟩ R hR
  dsimp only at i1 i2
  conv => whnf
  split
  rotate_left
  · rename_i h3; have h3 : ¬ (i : Int) < (rpCL l).length := of_decide_eq_false h3
    rw [hlen] at h3
    rw [List.drop_of_length_le (by omega)] at i2
    rw [i2] at hQ
    refine Eq.mp ?_ hQ
    kernel_rfl
  rename_i h3; have h3 : (i : Int) < (rpCL l).length := of_decide_eq_true h3
  rw [hlen] at h3
  obtain ⟨r, hr⟩ : ∃ r, l[i]? = some r := ⟨l[i]'(by omega), List.getElem?_eq_getElem (by omega)⟩
  have hra : (rpCL l)[i]? = some (rpC r) := by simp [rpCL, hr]
  rw [drop_get hr] at i2
  have hi1 : IntKind.i64.wrap ((i : Int) + 1) = ((i + 1 : Nat) : Int) := by rw [IntWalk.i64_in _ (by omega)]; omega
  have hp := hN2 r (List.mem_of_getElem? hr)
  have hp1 := (hl.2 r (List.mem_of_getElem? hr)).1
  have hplen : (prCL r.preps).length = r.preps.length := by simp [prCL]
  conv => whnf
  refine ⟨by show (0 : Int) ≤ (i : Nat); omega, by show ((i : Nat) : Int) < ((rpCL l).length : Nat); omega, _, hra, by kernel_rfl, ?_⟩
  conv => whnf
  refine aloop_at ?_ ?_ (aloop_inv (σ := Nat × Int) (fun s => ((sp 0 30 [(3, .int .i64 s.2), (10, .slice (rpCL l)), (11, .int .i64 ((rpCL l).length : Nat)), (12, .int .i64 (i : Nat)), (17, .slice (prCL r.preps)), (18, .int .i64 ((prCL r.preps).length : Nat)), (19, .int .i64 (s.1 : Nat))]), []))
    (fun s => s.1 ≤ r.preps.length ∧ highP r.preps a = highP (r.preps.drop s.1) s.2) (fun s => r.preps.length - s.1) ?_ N (0, a) ⟨Nat.zero_le _, rfl⟩ (by dsimp only; omega))
  · kernel_rfl
  · kernel_rfl
  rintro ⟨j, c⟩ ⟨j1, j2⟩ R' hR'
  dsimp only at j1 j2
  conv => whnf
  split
  rotate_left
  · rename_i h4; have h4 : ¬ (j : Int) < (prCL r.preps).length := of_decide_eq_false h4
    rw [hplen] at h4
    rw [List.drop_of_length_le (by omega)] at j2
    conv => whnf
    refine R_at ?_ ?_ (hR (i + 1, highP r.preps a) ⟨by omega, i2⟩ (by dsimp only; omega))
    · rw [← hi1, j2]; kernel_rfl
    · kernel_rfl
  rename_i h4; have h4 : (j : Int) < (prCL r.preps).length := of_decide_eq_true h4
  rw [hplen] at h4
  obtain ⟨p, hpp⟩ : ∃ p, r.preps[j]? = some p := ⟨r.preps[j]'(by omega), List.getElem?_eq_getElem (by omega)⟩
  have hpa : (prCL r.preps)[j]? = some (prC p) := by simp [prCL, hpp]
  rw [drop_get hpp] at j2
  have hj1 : IntKind.i64.wrap ((j : Int) + 1) = ((j + 1 : Nat) : Int) := by rw [IntWalk.i64_in _ (by omega)]; omega
  conv => whnf
  refine ⟨by show (0 : Int) ≤ (j : Nat); omega, by show ((j : Nat) : Int) < ((prCL r.preps).length : Nat); omega, _, hpa, by kernel_rfl, ?_⟩
  conv => whnf
  refine R_at ?_ ?_ (hR' (j + 1, mx c p.slot) ⟨by omega, j2⟩ (by dsimp only; omega))
  · rw [← hj1]; kernel_rfl
  · kernel_rfl
def fuelR (l : List RpV) : Nat := l.length + (l.map fun r => r.preps.length).sum + 1
theorem le_sum_mem : ∀ (l : List Nat) (n : Nat), n ∈ l → n ≤ l.sum
  | x :: l, n, h => by
    rcases List.mem_cons.1 h with rfl | h
    · simp only [List.sum_cons]; omega
    · have := le_sum_mem l n h
      simp only [List.sum_cons]
      omega
theorem fuelR_ok (l : List RpV) : l.length < fuelR l ∧ ∀ r ∈ l, r.preps.length < fuelR l := by
  refine ⟨by unfold fuelR; omega, fun r hr => ?_⟩
  have : r.preps.length ≤ (l.map fun r => r.preps.length).sum := le_sum_mem _ _ (List.mem_map.2 ⟨r, hr, rfl⟩)
  unfold fuelR
  omega
set_option maxRecDepth 100000 in
theorem shigh {T : Tab} (hT : TGood Tryd.prog T) : SGood Tryd.prog 10 (flatT ghigh) := flatT_good ghigh_det ghigh_flat fun args Q h => by
  unfold ghigh at h
  split at h
  · obtain ⟨l, rfl, hl, hQ⟩ := h
    exact body_pure (ext_good hT (slow hT)) mixedT Tryd.func10 (entersOf Tryd.func10 (by kernel_rfl) rfl) _ (fhigh_ok l hl T Q hQ (fuelR l) (fuelR_ok l).1 (fuelR_ok l).2)
  · exact h.elim
end Go.Abs

/-
choose.best, Pick, Picks are what they come to.
-/
namespace Go.Abs
open Go Go.Proofs

def stepB (slot : Int) (o : Option PrV) (p : PrV) : Option PrV := match o with
  | none => cond (p.slot == slot) (some p) none
  | some q => cond (p.slot == slot && decide (cmpB p.bal q.bal > 0)) (some p) (some q)
def bestP (slot : Int) (l : List PrV) (o : Option PrV) : Option PrV := l.foldl (stepB slot) o
def bestF (slot : Int) (l : List RpV) (o : Option PrV) : Option PrV := l.foldl (fun o r => bestP slot r.preps o) o
def optA : Option PrV → AV
  | none => .nilptr
  | some p => .eptr (prC p)

def gbest : GSpec := fun args K => match args with
  | [.int .i64 s, .slice es] => ∃ l : List RpV, es = rpCL l ∧ okRL l ∧ K (.ret (optA (bestF s l none)))
  | _ => False
theorem gbest_det (args : List AV) : Det (gbest args) := by
  unfold gbest
  repeat' (first | exact Det.no | exact Det.at _ | refine Det.and ?_ | refine Det.ex fun _ => ?_ | refine Det.cond ?_ ?_ | split)
set_option maxRecDepth 100000 in
set_option maxHeartbeats 16000000 in
theorem fbest_ok (s : Int) (l : List RpV) (hl : okRL l) (T : Tab) (Q : AOut → Prop) (hQ : Q (.ret (optA (bestF s l none)))) (N : Nat) (hN : l.length < N) (hN2 : ∀ r ∈ l, r.preps.length < N) :
    abody Tryd.prog (ext T 16 (flatT gcb)) 0 N Tryd.f45 [.int .i64 s, .slice (rpCL l)] [] (fun out Hs => Q (frzO Hs out)) := by
  have hlen : (rpCL l).length = l.length := by simp [rpCL]
  have hl1 := hl.1
  conv => whnf
  refine aloop_at ?_ ?_ (aloop_inv (σ := Nat × Option PrV) (fun z => ((sp 0 49 [(0, .int .i64 s), (5, optA z.2), (10, .slice (rpCL l)), (11, .int .i64 ((rpCL l).length : Nat)), (12, .int .i64 (z.1 : Nat))]), []))
    (fun z => z.1 ≤ l.length ∧ bestF s l none = bestF s (l.drop z.1) z.2) (fun z => l.length - z.1) ?_ N (0, none) ⟨Nat.zero_le _, rfl⟩ (by dsimp only; omega))
  · kernel_rfl
  · kernel_rfl
  rintro ⟨i, o⟩ ⟨i1, i2⟩ R hR
  dsimp only at i1 i2
  cases o
  all_goals
    conv => whnf
    split
    rotate_left
    · rename_i h3; have h3 : ¬ (i : Int) < (rpCL l).length := of_decide_eq_false h3
      rw [hlen] at h3
      rw [List.drop_of_length_le (by omega)] at i2
      rw [i2] at hQ
      refine Eq.mp ?_ hQ
      kernel_rfl
    rename_i h3; have h3 : (i : Int) < (rpCL l).length := of_decide_eq_true h3
    rw [hlen] at h3
    obtain ⟨r, hr⟩ : ∃ r, l[i]? = some r := ⟨l[i]'(by omega), List.getElem?_eq_getElem (by omega)⟩
    have hra : (rpCL l)[i]? = some (rpC r) := by simp [rpCL, hr]
    rw [drop_get hr] at i2
    have hi1 : IntKind.i64.wrap ((i : Int) + 1) = ((i + 1 : Nat) : Int) := by rw [IntWalk.i64_in _ (by omega)]; omega
    have hp := hN2 r (List.mem_of_getElem? hr)
    have hp1 := (hl.2 r (List.mem_of_getElem? hr)).1
    have hplen : (prCL r.preps).length = r.preps.length := by simp [prCL]
    conv => whnf
    refine ⟨by show (0 : Int) ≤ (i : Nat); omega, by show ((i : Nat) : Int) < ((rpCL l).length : Nat); omega, _, hra, by kernel_rfl, ?_⟩
    conv => whnf
    refine aloop_at ?_ ?_ (aloop_inv (σ := Nat × Option PrV) (fun z => ((sp 0 49 [(0, .int .i64 s), (5, optA z.2), (7, .ptr 0 0), (10, .slice (rpCL l)), (11, .int .i64 ((rpCL l).length : Nat)), (12, .int .i64 (i : Nat)), (17, .slice (prCL r.preps)), (18, .int .i64 ((prCL r.preps).length : Nat)), (19, .int .i64 (z.1 : Nat))]), [.var (rpC r)]))
      (fun z => z.1 ≤ r.preps.length ∧ bestF s l none = bestF s (l.drop (i + 1)) (bestP s (r.preps.drop z.1) z.2)) (fun z => r.preps.length - z.1) ?_ N (0, _) ⟨Nat.zero_le _, i2⟩ (by dsimp only; omega))
    · kernel_rfl
    · kernel_rfl
    clear i2
    rintro ⟨j, c⟩ ⟨j1, j2⟩ R' hR'
    dsimp only at j1 j2
    have idx : (0 : Int) ≤ (j : Nat) := by omega
    rcases c with _ | q
    · conv => whnf
      split
      rotate_left
      · rename_i h4; have h4 : ¬ (j : Int) < (prCL r.preps).length := of_decide_eq_false h4
        rw [hplen] at h4
        rw [show r.preps.drop j = [] from List.drop_of_length_le (by omega)] at j2
        conv => whnf
        refine R_at ?_ ?_ (hR (i + 1, _) ⟨by omega, j2⟩ (by dsimp only; omega))
        · rw [← hi1]; kernel_rfl
        · kernel_rfl
      rename_i h4; have h4 : (j : Int) < (prCL r.preps).length := of_decide_eq_true h4
      rw [hplen] at h4
      obtain ⟨p, hpp⟩ : ∃ p, r.preps[j]? = some p := ⟨r.preps[j]'(by omega), List.getElem?_eq_getElem (by omega)⟩
      have hpa : (prCL r.preps)[j]? = some (prC p) := by simp [prCL, hpp]
      rw [drop_get hpp] at j2
      have hj1 : IntKind.i64.wrap ((j : Int) + 1) = ((j + 1 : Nat) : Int) := by rw [IntWalk.i64_in _ (by omega)]; omega
      conv => whnf
      refine ⟨by show (0 : Int) ≤ (j : Nat); omega, by show ((j : Nat) : Int) < ((prCL r.preps).length : Nat); omega, _, hpa, by kernel_rfl, ?_⟩
      conv => whnf
      refine ⟨[], ?_⟩
      conv => whnf
      generalize hg : (p.slot == s) = g
      cases g with
      | false =>
        have hst : bestP s (p :: r.preps.drop (j + 1)) none = bestP s (r.preps.drop (j + 1)) none := by simp only [bestP, List.foldl_cons, stepB, hg, _root_.cond_false]
        rw [hst] at j2
        conv => whnf
        repeat (refine ⟨rfl, ?_⟩; conv => whnf)
        refine R_at ?_ ?_ (hR' (j + 1, none) ⟨by omega, j2⟩ (by dsimp only; omega))
        · rw [← hj1]; kernel_rfl
        · kernel_rfl
      | true =>
        have hst : bestP s (p :: r.preps.drop (j + 1)) none = bestP s (r.preps.drop (j + 1)) (some p) := by simp only [bestP, List.foldl_cons, stepB, hg, _root_.cond_true]
        rw [hst] at j2
        conv => whnf
        repeat (refine ⟨rfl, ?_⟩; conv => whnf)
        refine ⟨idx, by show ((j : Nat) : Int) < ((prCL r.preps).length : Nat); omega, _, hpa, by kernel_rfl, ?_⟩
        conv => whnf
        refine R_at ?_ ?_ (hR' (j + 1, some p) ⟨by omega, j2⟩ (by dsimp only; omega))
        · rw [← hj1]; kernel_rfl
        · kernel_rfl
    · conv => whnf
      split
      rotate_left
      · rename_i h4; have h4 : ¬ (j : Int) < (prCL r.preps).length := of_decide_eq_false h4
        rw [hplen] at h4
        rw [show r.preps.drop j = [] from List.drop_of_length_le (by omega)] at j2
        conv => whnf
        refine R_at ?_ ?_ (hR (i + 1, _) ⟨by omega, j2⟩ (by dsimp only; omega))
        · rw [← hi1]; kernel_rfl
        · kernel_rfl
      rename_i h4; have h4 : (j : Int) < (prCL r.preps).length := of_decide_eq_true h4
      rw [hplen] at h4
      obtain ⟨p, hpp⟩ : ∃ p, r.preps[j]? = some p := ⟨r.preps[j]'(by omega), List.getElem?_eq_getElem (by omega)⟩
      have hpa : (prCL r.preps)[j]? = some (prC p) := by simp [prCL, hpp]
      rw [drop_get hpp] at j2
      have hj1 : IntKind.i64.wrap ((j : Int) + 1) = ((j + 1 : Nat) : Int) := by rw [IntWalk.i64_in _ (by omega)]; omega
      conv => whnf
      refine ⟨by show (0 : Int) ≤ (j : Nat); omega, by show ((j : Nat) : Int) < ((prCL r.preps).length : Nat); omega, _, hpa, by kernel_rfl, ?_⟩
      conv => whnf
      refine ⟨[], ?_⟩
      conv => whnf
      generalize hg : (p.slot == s) = g
      cases g with
      | false =>
        have hst : bestP s (p :: r.preps.drop (j + 1)) (some q) = bestP s (r.preps.drop (j + 1)) (some q) := by simp only [bestP, List.foldl_cons, stepB, hg, Bool.false_and, _root_.cond_false]
        rw [hst] at j2
        conv => whnf
        repeat (refine ⟨rfl, ?_⟩; conv => whnf)
        refine R_at ?_ ?_ (hR' (j + 1, some q) ⟨by omega, j2⟩ (by dsimp only; omega))
        · rw [← hj1]; kernel_rfl
        · kernel_rfl
      | true =>
        conv => whnf
        repeat (refine ⟨rfl, ?_⟩; conv => whnf)
        split
        · rename_i h5; have h5 : decide (cmpB p.bal q.bal > 0) = true := h5
          have hst : bestP s (p :: r.preps.drop (j + 1)) (some q) = bestP s (r.preps.drop (j + 1)) (some p) := by simp only [bestP, List.foldl_cons, stepB, hg, h5, Bool.true_and, _root_.cond_true]
          rw [hst] at j2
          conv => whnf
          refine ⟨idx, by show ((j : Nat) : Int) < ((prCL r.preps).length : Nat); omega, _, hpa, by kernel_rfl, ?_⟩
          conv => whnf
          refine R_at ?_ ?_ (hR' (j + 1, some p) ⟨by omega, j2⟩ (by dsimp only; omega))
          · rw [← hj1]; kernel_rfl
          · kernel_rfl
        · rename_i h5; have h5 : decide (cmpB p.bal q.bal > 0) = false := h5
          have hst : bestP s (p :: r.preps.drop (j + 1)) (some q) = bestP s (r.preps.drop (j + 1)) (some q) := by simp only [bestP, List.foldl_cons, stepB, hg, h5, Bool.and_false, _root_.cond_false]
          rw [hst] at j2
          conv => whnf
          refine R_at ?_ ?_ (hR' (j + 1, some q) ⟨by omega, j2⟩ (by dsimp only; omega))
          · rw [← hj1]; kernel_rfl
          · kernel_rfl
set_option maxRecDepth 100000 in
theorem sbest {T : Tab} (hT : TGood Tryd.prog T) : SGood Tryd.prog 45 (pureT gbest) := pureT_good gbest_det fun args Q h => by
  unfold gbest at h
  split at h
  · obtain ⟨l, rfl, hl, hQ⟩ := h
    exact body_pure (ext_good hT (scb hT)) mixedT Tryd.func45 (entersOf Tryd.func45 (by kernel_rfl) rfl) _ (fbest_ok _ l hl T Q hQ (fuelR l) (fuelR_ok l).1 (fuelR_ok l).2)
  · exact h.elim

end Go.Abs

/-
choose.Pick, Picks are what they come to.
-/
namespace Go.Abs
open Go Go.Proofs

/-! ### Pick, Picks -/
def zRq : RqV := ⟨0, 0, [], []⟩
def pickL (slot : Int) (l : List RpV) : RqV := match bestF slot l none with
  | none => zRq
  | some p => p.req
theorem bestP_ok {s : Int} : ∀ (l : List PrV) (o : Option PrV), (∀ p ∈ l, okR p.req) → (∀ p, o = some p → okR p.req) → ∀ p, bestP s l o = some p → okR p.req
  | [], _, _, h, p, hp => h p hp
  | x :: l, o, hl, h, p, hp => by
    refine bestP_ok l (stepB s o x) (fun y hy => hl y (List.mem_cons_of_mem _ hy)) (fun y hy => ?_) p hp
    unfold stepB at hy
    split at hy
    · cases hb : (x.slot == s) <;> rw [hb] at hy
      · cases hy
      · cases hy; exact hl _ List.mem_cons_self
    · cases hb : (x.slot == s && decide (cmpB x.bal (_ : PrV).bal > 0)) <;> rw [hb] at hy
      · exact h _ hy
      · cases hy; exact hl _ List.mem_cons_self
theorem bestF_ok {s : Int} : ∀ (l : List RpV) (o : Option PrV), (∀ r ∈ l, ∀ p ∈ r.preps, okR p.req) → (∀ p, o = some p → okR p.req) → ∀ p, bestF s l o = some p → okR p.req
  | [], _, _, h, p, hp => h p hp
  | x :: l, o, hl, h, p, hp => bestF_ok l (bestP s x.preps o) (fun y hy => hl y (List.mem_cons_of_mem _ hy)) (fun y hy => bestP_ok x.preps o (hl x List.mem_cons_self) h y hy) p hp
def gpick : GSpec := fun args K => match args with
  | [.int .i64 s, .slice es] => ∃ l : List RpV, es = rpCL l ∧ okRL l ∧ K (.ret (.agg (rqC (pickL s l))))
  | _ => False
theorem gpick_det (args : List AV) : Det (gpick args) := by
  unfold gpick
  repeat' (first | exact Det.no | exact Det.at _ | refine Det.and ?_ | refine Det.ex fun _ => ?_ | refine Det.cond ?_ ?_ | split)
set_option maxRecDepth 100000 in
set_option maxHeartbeats 8000000 in
theorem fpick_ok (s : Int) (l : List RpV) (hl : okRL l) (T : Tab) (Q : AOut → Prop) (hQ : Q (.ret (.agg (rqC (pickL s l))))) (N : Nat) :
    abody Tryd.prog (ext (ext T 45 (pureT gbest)) 46 (pureT g83)) 0 N Tryd.f27 [.int .i64 s, .slice (rpCL l)] [] (fun out Hs => Q (frzO Hs out)) := by
  have hok := bestF_ok (s := s) l none (fun r hr => (hl.2 r hr).2) (fun p h => by cases h)
  unfold pickL at hQ
  conv => whnf
  refine ⟨l, rfl, hl, ?_⟩
  generalize bestF s l none = o at hQ hok ⊢
  cases o with
  | none =>
    conv => whnf
    refine Eq.mp ?_ hQ
    kernel_rfl
  | some p =>
    have hp := hok p rfl
    conv => whnf
    refine ⟨[6, 8], ?_⟩
    have o1 := hp.1.2
    have o2 := hp.2.2
    conv => whnf
    repeat ((first | refine ⟨p.req.op, rfl, by omega, ?_⟩ | refine ⟨p.req.sig, rfl, by omega, ?_⟩ | refine ⟨rfl, ?_⟩ | refine ⟨by (conv => whnf); exact ⟨rfl, rfl⟩, ?_⟩ | refine ⟨by (conv => whnf); exact ⟨p.req.op, rfl, by omega, rfl, rfl⟩, ?_⟩ | refine ⟨by (conv => whnf); exact ⟨p.req.sig, rfl, by omega, rfl, rfl⟩, ?_⟩); conv => whnf)
    refine Eq.mp ?_ hQ
    kernel_rfl
set_option maxRecDepth 100000 in
theorem spick {T : Tab} (hT : TGood Tryd.prog T) : SGood Tryd.prog 27 (pureT gpick) := pureT_good gpick_det fun args Q h => by
  unfold gpick at h
  split at h
  · obtain ⟨l, rfl, hl, hQ⟩ := h
    have t0 := ext_good hT (sbest hT)
    exact body_pure (ext_good t0 (s83 t0)) mixedT Tryd.func27 (entersOf Tryd.func27 (by kernel_rfl) rfl) 0 (fpick_ok _ l hl T Q hQ 0)
  · exact h.elim

/-- The requests that a new ballot goes on with. -/
def picksN (l : List RpV) : Nat := let d := IntKind.i64.wrap (highL l - lowL l 0); (if 16 < d then (16 : Int) else d).toNat
def slotAt (l : List RpV) (i : Nat) : Int := IntKind.i64.wrap (IntKind.i64.wrap (lowL l 0 + 1) + i)
def picksL (l : List RpV) : List RqV := (List.range (picksN l)).map fun i => pickL (slotAt l i) l
def gpicks : GSpec := fun args K => match args with
  | [.slice es] => ∃ l : List RpV, es = rpCL l ∧ okRL l ∧ K (.ret (.slice (rqCL (picksL l))))
  | _ => False
theorem gpicks_det (args : List AV) : Det (gpicks args) := by
  unfold gpicks
  repeat' (first | exact Det.no | exact Det.at _ | refine Det.and ?_ | refine Det.ex fun _ => ?_ | refine Det.cond ?_ ?_ | split)
theorem fits_16 {el : List AV} {n : Nat} (h : el.length = 4) (hn : n ≤ 16) (bytes : Nat) (hb : Nat.ble bytes 4096 = true) : FitsA [el] 4 bytes n := by
  have hb := Nat.le_of_ble_eq_true hb
  refine fits_one h ?_ (by omega)
  have : (n + 1) * bytes ≤ 17 * 4096 := Nat.mul_le_mul (by omega) hb
  omega
def rowVp (l : List (List AV)) : AV := match l with | [] => .zslice | _ => .row 0
def rowHp (l : List (List AV)) : Heap := match l with | [] => [] | _ => [.row true 39 4 l]
set_option maxRecDepth 100000 in
set_option maxHeartbeats 8000000 in
theorem fpicks_ok (l : List RpV) (hl : okRL l) (T : Tab) (Q : AOut → Prop) (hQ : Q (.ret (.slice (rqCL (picksL l))))) (N : Nat) (hN : 16 < N) :
    abody Tryd.prog (ext (ext (ext T 9 (flatT glow)) 10 (flatT ghigh)) 27 (pureT gpick)) 0 N Tryd.f11 [.slice (rpCL l)] [] (fun out Hs => Q (frzO Hs out)) := by
  conv => whnf
  refine ⟨l, rfl, hl.1, ?_⟩
  conv => whnf
  refine ⟨l, rfl, hl, ?_⟩
  generalize hm : (if (16 : Int) < IntKind.i64.wrap (highL l - lowL l 0) then (16 : Int) else IntKind.i64.wrap (highL l - lowL l 0)) = m
  have hN1 : picksN l = m.toNat := by unfold picksN; dsimp only; rw [hm]
  have hm16 : m ≤ 16 := by rw [← hm]; split <;> omega
  conv => whnf
  refine aloop_at ?_ ?_ (aloop_inv (σ := Nat × List RqV) (fun s => ((sp 0 27 [(0, .slice (rpCL l)), (3, rowVp (rqCL s.2)), (4, .int .i64 (lowL l 0)), (12, .int .i64 (if (16 : Int) < IntKind.i64.wrap (highL l - lowL l 0) then (16 : Int) else IntKind.i64.wrap (highL l - lowL l 0))), (13, .int .i64 (s.1 : Nat))]), rowHp (rqCL s.2)))
    (fun s => s.1 ≤ m.toNat ∧ s.2 = (List.range s.1).map fun i => pickL (slotAt l i) l) (fun s => m.toNat - s.1) ?_ N (0, []) ⟨Nat.zero_le _, rfl⟩ (by dsimp only; omega))
  · kernel_rfl
  · kernel_rfl
  rintro ⟨i, acc⟩ ⟨i1, i2⟩ R hR
  dsimp only at i1 i2
  have hi16 : i ≤ 16 := by omega
  have hcl : (rqCL acc).length = i := by rw [i2]; simp [rqCL]
  have hend : ¬ (i : Int) < m → Q (.ret (.slice (rqCL acc))) := fun h => by
    have : i = m.toNat := by omega
    have : acc = picksL l := by rw [i2, this, ← hN1]; rfl
    rw [this]
    exact hQ
  have hi1 : IntKind.i64.wrap ((i : Int) + 1) = ((i + 1 : Nat) : Int) := by rw [IntWalk.i64_in _ (by omega)]; omega
  have hnext : (List.range (i + 1)).map (fun i => pickL (slotAt l i) l) = acc ++ [pickL (slotAt l i) l] := by rw [List.range_succ, List.map_append, ← i2]; rfl
  rcases acc with _ | ⟨x, xs⟩
  · conv => whnf
    split
    rotate_left
    · rename_i h3; have h3 : ¬ (i : Int) < m := by rw [← hm]; exact of_decide_eq_false h3
      refine Eq.mp ?_ (hend h3)
      kernel_rfl
    rename_i h3; have h3 : (i : Int) < m := by rw [← hm]; exact of_decide_eq_true h3
    conv => whnf
    refine ⟨l, rfl, hl, ?_⟩
    conv => whnf
    refine ⟨fits_at (ys' := [rqC (pickL (slotAt l i) l)]) (by kernel_rfl) (fits_16 rfl (Nat.le_trans (Nat.le_of_eq hcl) hi16) _ (by kernel_rfl)), ?_⟩
    conv => whnf
    refine R_at ?_ ?_ (hR (i + 1, [pickL (slotAt l i) l]) ⟨by omega, hnext.symm⟩ (by dsimp only; omega))
    · rw [← hi1]; kernel_rfl
    · kernel_rfl
  · conv => whnf
    split
    rotate_left
    · rename_i h3; have h3 : ¬ (i : Int) < m := by rw [← hm]; exact of_decide_eq_false h3
      refine Eq.mp ?_ (hend h3)
      kernel_rfl
    rename_i h3; have h3 : (i : Int) < m := by rw [← hm]; exact of_decide_eq_true h3
    conv => whnf
    refine ⟨l, rfl, hl, ?_⟩
    conv => whnf
    refine ⟨fits_at (ys' := [rqC (pickL (slotAt l i) l)]) (by kernel_rfl) (fits_16 rfl (Nat.le_trans (Nat.le_of_eq hcl) hi16) _ (by kernel_rfl)), ?_⟩
    conv => whnf
    refine R_at ?_ ?_ (hR (i + 1, (x :: xs) ++ [pickL (slotAt l i) l]) ⟨by omega, hnext.symm⟩ (by dsimp only; omega))
    · rw [← hi1]; kernel_rfl
    · show _ = rowHp (rqCL ((x :: xs) ++ [pickL (slotAt l i) l]))
      rw [show rqCL ((x :: xs) ++ [pickL (slotAt l i) l]) = rqCL (x :: xs) ++ [rqC (pickL (slotAt l i) l)] by simp [rqCL]]
      kernel_rfl
set_option maxRecDepth 100000 in
theorem spicks {T : Tab} (hT : TGood Tryd.prog T) : SGood Tryd.prog 11 (pureT gpicks) := pureT_good gpicks_det fun args Q h => by
  unfold gpicks at h
  split at h
  · obtain ⟨l, rfl, hl, hQ⟩ := h
    have t0 := ext_good hT (slow hT)
    have t1 := ext_good t0 (shigh t0)
    exact body_pure (ext_good t1 (spick t1)) mixedT Tryd.func11 (entersOf Tryd.func11 (by kernel_rfl) rfl) 17 (fpicks_ok l hl T Q hQ 17 (by omega))
  · exact h.elim
end Go.Abs

/-
ballot.Right, Quorum, choose.All without reports, the chapter's example, ChooseNames are what they come to.
-/
namespace Go.Abs
open Go Go.Proofs

def rightB (n : Int) : Bool := decide (n ≥ 4) && (decide (n ≤ 16) && (n.tmod 3 == 1))
def grt : GSpec := fun args K => match args with
  | [.int .i64 n] => K (.ret (.bool (rightB n)))
  | _ => False
theorem grt_det (args : List AV) : Det (grt args) := by
  unfold grt
  repeat' (first | exact Det.no | exact Det.at _ | refine Det.and ?_ | refine Det.ex fun _ => ?_ | refine Det.cond ?_ ?_ | split)
theorem grt_flat (args : List AV) (o : AOut) (h : grt args (· = o)) : flatO o = true := by
  unfold grt at h
  split at h
  · cases h; rfl
  · exact h.elim
set_option maxRecDepth 100000 in
set_option maxHeartbeats 4000000 in
theorem frt_ok (n : Int) (T : Tab) (Q : AOut → Prop) (hQ : Q (.ret (.bool (rightB n)))) (N : Nat) :
    abody Tryd.prog T 0 N Tryd.f14 [.int .i64 n] [] (fun out Hs => Q (frzO Hs out)) := by
  unfold rightB at hQ
  conv => whnf
  cases h1 : decide (n ≥ 4) with
  | false =>
    rw [h1] at hQ
    conv => whnf
    refine Eq.mp ?_ hQ
    kernel_rfl
  | true =>
    rw [h1] at hQ
    conv => whnf
    cases h2 : decide (n ≤ 16) with
    | false =>
      rw [h2] at hQ
      conv => whnf
      refine Eq.mp ?_ hQ
      kernel_rfl
    | true =>
      rw [h2] at hQ
      conv => whnf
      refine Eq.mp ?_ hQ
      kernel_rfl
set_option maxRecDepth 100000 in
theorem srt {T : Tab} (hT : TGood Tryd.prog T) : SGood Tryd.prog 14 (flatT grt) := flatT_good grt_det grt_flat fun args Q h => by
  unfold grt at h
  split at h
  · exact body_pure hT mixedT Tryd.func14 (entersOf Tryd.func14 (by kernel_rfl) rfl) 0 (frt_ok _ T Q h 0)
  · exact h.elim

def timesI (n k more : Int) : Int := cond (rightB n) (IntKind.i64.wrap (IntKind.i64.wrap (IntKind.i64.wrap (n.tdiv 3) * k) + more)) 0
def gtm : GSpec := fun args K => match args with
  | [.int .i64 n, .int .i64 k, .int .i64 m] => K (.ret (.int .i64 (timesI n k m)))
  | _ => False
theorem gtm_det (args : List AV) : Det (gtm args) := by
  unfold gtm
  repeat' (first | exact Det.no | exact Det.at _ | refine Det.and ?_ | refine Det.ex fun _ => ?_ | refine Det.cond ?_ ?_ | split)
theorem gtm_flat (args : List AV) (o : AOut) (h : gtm args (· = o)) : flatO o = true := by
  unfold gtm at h
  split at h
  · cases h; rfl
  · exact h.elim
set_option maxRecDepth 100000 in
set_option maxHeartbeats 4000000 in
theorem ftm_ok (n k m : Int) (T : Tab) (Q : AOut → Prop) (hQ : Q (.ret (.int .i64 (timesI n k m)))) (N : Nat) :
    abody Tryd.prog (ext T 14 (flatT grt)) 0 N Tryd.f30 [.int .i64 n, .int .i64 k, .int .i64 m] [] (fun out Hs => Q (frzO Hs out)) := by
  unfold timesI at hQ
  conv => whnf
  generalize rightB n = b at hQ ⊢
  cases b
  all_goals
    conv => whnf
    refine Eq.mp ?_ hQ
    kernel_rfl
set_option maxRecDepth 100000 in
theorem stm {T : Tab} (hT : TGood Tryd.prog T) : SGood Tryd.prog 30 (flatT gtm) := flatT_good gtm_det gtm_flat fun args Q h => by
  unfold gtm at h
  split at h
  · exact body_pure (ext_good hT (srt hT)) mixedT Tryd.func30 (entersOf Tryd.func30 (by kernel_rfl) rfl) 0 (ftm_ok _ _ _ T Q h 0)
  · exact h.elim

def gqu : GSpec := fun args K => match args with
  | [.int .i64 n] => K (.ret (.int .i64 (timesI n 2 1)))
  | _ => False
theorem gqu_det (args : List AV) : Det (gqu args) := by
  unfold gqu
  repeat' (first | exact Det.no | exact Det.at _ | refine Det.and ?_ | refine Det.ex fun _ => ?_ | refine Det.cond ?_ ?_ | split)
theorem gqu_flat (args : List AV) (o : AOut) (h : gqu args (· = o)) : flatO o = true := by
  unfold gqu at h
  split at h
  · cases h; rfl
  · exact h.elim
set_option maxRecDepth 100000 in
theorem fqu_ok (n : Int) (T : Tab) (Q : AOut → Prop) (hQ : Q (.ret (.int .i64 (timesI n 2 1)))) (N : Nat) :
    abody Tryd.prog (ext T 30 (flatT gtm)) 0 N Tryd.f15 [.int .i64 n] [] (fun out Hs => Q (frzO Hs out)) := by
  refine Eq.mp ?_ hQ
  kernel_rfl
set_option maxRecDepth 100000 in
theorem squ {T : Tab} (hT : TGood Tryd.prog T) : SGood Tryd.prog 15 (flatT gqu) := flatT_good gqu_det gqu_flat fun args Q h => by
  unfold gqu at h
  split at h
  · exact body_pure (ext_good hT (stm hT)) mixedT Tryd.func15 (entersOf Tryd.func15 (by kernel_rfl) rfl) 0 (fqu_ok _ T Q h 0)
  · exact h.elim

def gall0 : GSpec := fun args K => match args with
  | [.agg [.int .i64 _, .int .i64 _], .slice es, .int .i64 n] => es = [] ∧ n = 4 ∧ K (.ret (.bool false))
  | _ => False
theorem gall0_det (args : List AV) : Det (gall0 args) := by
  unfold gall0
  repeat' (first | exact Det.no | exact Det.at _ | refine Det.and ?_ | refine Det.ex fun _ => ?_ | refine Det.cond ?_ ?_ | split)
theorem gall0_flat (args : List AV) (o : AOut) (h : gall0 args (· = o)) : flatO o = true := by
  unfold gall0 at h
  split at h
  · obtain ⟨_, _, rfl⟩ := h; rfl
  · exact h.elim
set_option maxRecDepth 100000 in
set_option maxHeartbeats 4000000 in
theorem fall0_ok (a b : Int) (T : Tab) (Q : AOut → Prop) (hQ : Q (.ret (.bool false))) (N : Nat) :
    abody Tryd.prog (ext (ext T 14 (flatT grt)) 15 (flatT gqu)) 0 N Tryd.f12 [.agg [.int .i64 a, .int .i64 b], .slice [], .int .i64 4] [] (fun out Hs => Q (frzO Hs out)) := by
  have h1 : rightB 4 = true := rfl
  have h2 : timesI 4 2 1 = 3 := rfl
  conv => whnf
  refine Eq.mp ?_ hQ
  kernel_rfl
set_option maxRecDepth 100000 in
theorem sall0 {T : Tab} (hT : TGood Tryd.prog T) : SGood Tryd.prog 12 (flatT gall0) := flatT_good gall0_det gall0_flat fun args Q h => by
  unfold gall0 at h
  split at h
  · obtain ⟨rfl, rfl, hQ⟩ := h
    have t0 := ext_good hT (srt hT)
    exact body_pure (ext_good t0 (squ t0)) mixedT Tryd.func12 (entersOf Tryd.func12 (by kernel_rfl) rfl) 0 (fall0_ok _ _ T Q hQ 0)
  · exact h.elim

/-! ### chooseAlive -/
def exq : RqV := ⟨1, 2, [], []⟩
def exl : List RpV := [⟨⟨0, 0⟩, 0, 0, [], [], [], []⟩, ⟨⟨0, 0⟩, 0, 4, [], [], [⟨6, ⟨0, 0⟩, exq, []⟩], []⟩]
theorem exl_ok : okRL exl := by
  refine ⟨by decide, fun r hr => ?_⟩
  simp only [exl, List.mem_cons, List.not_mem_nil, or_false] at hr
  rcases hr with rfl | rfl
  · exact ⟨by simp, fun p hp => by cases hp⟩
  · refine ⟨by simp, fun p hp => ?_⟩
    simp only [List.mem_cons, List.not_mem_nil, or_false] at hp
    subst hp
    exact ⟨⟨fun b h => (by cases h), by simp [exq]⟩, ⟨fun b h => (by cases h), by simp [exq]⟩⟩
theorem exl_picks : picksL exl = [zRq, exq] := by kernel_rfl
theorem exq_ok : okR exq := ⟨⟨fun b h => (by cases h), by simp [exq]⟩, ⟨fun b h => (by cases h), by simp [exq]⟩⟩
theorem exq_eq : rqEq exq exq = true := by kernel_rfl

def galive : GSpec := fun args K => match args with
  | [] => K (.ret (.bool true))
  | _ => False
theorem galive_det (args : List AV) : Det (galive args) := by
  unfold galive
  repeat' (first | exact Det.no | exact Det.at _ | refine Det.and ?_ | refine Det.ex fun _ => ?_ | refine Det.cond ?_ ?_ | split)
theorem galive_flat (args : List AV) (o : AOut) (h : galive args (· = o)) : flatO o = true := by
  unfold galive at h
  split at h
  · cases h; rfl
  · exact h.elim
set_option maxRecDepth 100000 in
set_option maxHeartbeats 4000000 in
theorem falive_ok (T : Tab) (Q : AOut → Prop) (hQ : Q (.ret (.bool true))) (N : Nat) :
    abody Tryd.prog (ext (ext T 11 (pureT gpicks)) 17 (flatT g25)) 0 N Tryd.f8 [] [] (fun out Hs => Q (frzO Hs out)) := by
  conv => whnf
  refine ⟨exl, by kernel_rfl, exl_ok, ?_⟩
  rw [exl_picks]
  conv => whnf
  refine ⟨[], ?_⟩
  conv => whnf
  refine ⟨by decide, by show (0 : Int) < 2; decide, rqC zRq, rfl, by kernel_rfl, ?_⟩
  conv => whnf
  repeat (refine ⟨rfl, ?_⟩; conv => whnf)
  refine ⟨by decide, by show (1 : Int) < 2; decide, rqC exq, rfl, by kernel_rfl, ?_⟩
  conv => whnf
  repeat (refine ⟨rfl, ?_⟩; conv => whnf)
  refine ⟨exq, exq, rfl, rfl, exq_ok, exq_ok, ?_⟩
  rw [exq_eq]
  conv => whnf
  repeat (refine ⟨rfl, ?_⟩; conv => whnf)
  refine Eq.mp ?_ hQ
  kernel_rfl
set_option maxRecDepth 100000 in
theorem salive {T : Tab} (hT : TGood Tryd.prog T) : SGood Tryd.prog 8 (flatT galive) := flatT_good galive_det galive_flat fun args Q h => by
  unfold galive at h
  split at h
  · have t0 := ext_good hT (spicks hT)
    exact body_pure (ext_good t0 (s25 t0)) mixedT Tryd.func8 (entersOf Tryd.func8 (by kernel_rfl) rfl) 0 (falive_ok T Q h 0)
  · exact h.elim

/-! ### ChooseNames -/
theorem okRL_nil : okRL [] := ⟨by simp, fun r h => by cases h⟩
def T3 (T : Tab) : Tab := ext (ext (ext (ext (ext T 8 (flatT galive)) 9 (flatT glow)) 10 (flatT ghigh)) 11 (pureT gpicks)) 12 (flatT gall0)
theorem T3_good {T : Tab} (hT : TGood Tryd.prog T) : TGood Tryd.prog (T3 T) := by
  have t0 := ext_good hT (salive hT)
  have t1 := ext_good t0 (slow t0)
  have t2 := ext_good t1 (shigh t1)
  have t3 := ext_good t2 (spicks t2)
  exact ext_good t3 (sall0 t3)
set_option maxRecDepth 100000 in
set_option maxHeartbeats 4000000 in
theorem f3_ok (T : Tab) (Q : AOut → Prop) (hQ : Q (.ret (.bool true))) (N : Nat) :
    abody Tryd.prog (T3 T) 0 N Tryd.f3 [] [] (fun out Hs => Q (frzO Hs out)) := by
  conv => whnf
  refine ⟨[], rfl, by simp, ?_⟩
  rw [show lowL [] 0 = 0 from rfl]
  conv => whnf
  refine ⟨[], rfl, okRL_nil, ?_⟩
  rw [show highL [] = 0 from rfl]
  conv => whnf
  refine ⟨[], rfl, okRL_nil, ?_⟩
  rw [show picksL [] = [] by kernel_rfl]
  conv => whnf
  refine ⟨rfl, rfl, ?_⟩
  refine Eq.mp ?_ hQ
  kernel_rfl
set_option maxRecDepth 100000 in
theorem s3 {T : Tab} (hT : TGood Tryd.prog T) : SGood Tryd.prog 3 (flatT galive) := flatT_good galive_det galive_flat fun args Q h => by
  unfold galive at h
  split at h
  · exact body_pure (T3_good hT) mixedT Tryd.func3 (entersOf Tryd.func3 (by kernel_rfl) rfl) 0 (f3_ok T Q h 0)
  · exact h.elim
end Go.Abs

