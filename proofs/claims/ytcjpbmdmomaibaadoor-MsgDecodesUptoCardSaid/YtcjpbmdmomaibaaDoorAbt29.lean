/-
catenaryref05.getNum, getText, getMany, getReq are what they come to.
-/
import Derived.Test.YtcjpbmdmomaibaaDoorAbt11
import Derived.Test.YtcjpbmdmomaibaaDoorAbt28
import Derived.Test.YtcjpbmdmomaibaaDoorAbt24
import Derived.Test.YtcjpbmdmomaibaaDoorAbt12
namespace Go.Abs
open Go Go.Proofs

/-- A place and a mark. -/
abbrev DS := Int × Bool
def inS (l : List Int) (s : DS) : List AV := [.slice (bsA l), .int .i64 s.1, .bool s.2]
def dNum (l : List Int) (s : DS) : DS × Int := match decI l s.1 with
  | some (n, x) => cond s.2 ((s.1, true), 0) ((x, false), n)
  | none => ((s.1, true), 0)
def dText (l : List Int) (s : DS) : DS × List Int := match decB l s.1 65536 with
  | some (p, x) => cond s.2 ((s.1, true), []) ((x, false), p)
  | none => ((s.1, true), [])
def dMany (l : List Int) (s : DS) : DS × Int :=
  let r := dNum l s
  cond (decide (r.2 > 64)) ((r.1.1, true), 0) r


def g61 : GSpec := fun args K => match args with
  | [.agg [.slice es, .int .i64 a, .bool b]] => ∃ l : List Int, es = bsA l ∧ OkL l ∧ K (.ret (.tuple [.agg (inS l (dNum l (a, b)).1), .int .i64 (dNum l (a, b)).2]))
  | _ => False
theorem g61_det (args : List AV) : Det (g61 args) := by
  unfold g61
  repeat' (first | exact Det.no | exact Det.at _ | refine Det.and ?_ | refine Det.ex fun _ => ?_ | refine Det.cond ?_ ?_ | split)

set_option maxRecDepth 100000 in
set_option maxHeartbeats 8000000 in
theorem f61_ok (l : List Int) (a : Int) (b : Bool) (hl : OkL l) (T : Tab) (Q : AOut → Prop) (hQ : Q (.ret (.tuple [.agg (inS l (dNum l (a, b)).1), .int .i64 (dNum l (a, b)).2]))) (N : Nat) :
    abody Tryd.prog (ext T 112 (flatT g101)) 0 N Tryd.f61 [.agg (inS l (a, b))] [] (fun out Hs => Q (frzO Hs out)) := by
  unfold dNum at hQ
  cases h : decI l a with
  | none =>
    have e1 : dN l a = 0 := by simp [dN, h]
    have e2 : dX l a = 0 := by simp [dX, h]
    have e3 : dE l a = 11 := by simp [dE, h]
    rw [h] at hQ
    cases b
    all_goals
      conv => whnf
      refine ⟨l, rfl, hl.b, hl.len, ?_⟩
      rw [e1, e2, e3]
      conv => whnf
      refine Eq.mp ?_ hQ
      kernel_rfl
  | some y =>
    obtain ⟨n, x⟩ := y
    have e1 : dN l a = n := by simp [dN, h]
    have e2 : dX l a = x := by simp [dX, h]
    have e3 : dE l a = 0 := by simp [dE, h]
    rw [h] at hQ
    cases b
    all_goals
      conv => whnf
      refine ⟨l, rfl, hl.b, hl.len, ?_⟩
      rw [e1, e2, e3]
      conv => whnf
      refine Eq.mp ?_ hQ
      kernel_rfl

set_option maxRecDepth 100000 in
theorem s61 {T : Tab} (hT : TGood Tryd.prog T) : SGood Tryd.prog 61 (pureT g61) := pureT_good g61_det fun args Q h => by
  unfold g61 at h
  split at h
  · obtain ⟨l, rfl, hl, hQ⟩ := h
    have t0 := ext_good hT (s112 hT)
    exact body_pure t0 mixedT Tryd.func61 (entersOf Tryd.func61 (by kernel_rfl) rfl) 0 (f61_ok l _ _ hl T Q hQ 0)
  · exact h.elim


def g114 : GSpec := fun args K => match args with
  | [.agg [.slice es, .int .i64 a, .bool b]] => ∃ l : List Int, es = bsA l ∧ OkL l ∧ K (.ret (.tuple [.agg (inS l (dText l (a, b)).1), .slice (bsA (dText l (a, b)).2)]))
  | _ => False
theorem g114_det (args : List AV) : Det (g114 args) := by
  unfold g114
  repeat' (first | exact Det.no | exact Det.at _ | refine Det.and ?_ | refine Det.ex fun _ => ?_ | refine Det.cond ?_ ?_ | split)

set_option maxRecDepth 100000 in
set_option maxHeartbeats 8000000 in
theorem f114_ok (l : List Int) (a : Int) (b : Bool) (hl : OkL l) (T : Tab) (Q : AOut → Prop) (hQ : Q (.ret (.tuple [.agg (inS l (dText l (a, b)).1), .slice (bsA (dText l (a, b)).2)]))) (N : Nat) :
    abody Tryd.prog (ext T 133 (pureT g130)) 0 N Tryd.f114 [.agg (inS l (a, b))] [] (fun out Hs => Q (frzO Hs out)) := by
  unfold dText at hQ
  cases h : decB l a 65536 with
  | none =>
    have e1 : bP l a 65536 = [] := by simp [bP, h]
    have e2 : bX l a 65536 = 0 := by simp [bX, h]
    have e3 : bE l a 65536 = 11 := by simp [bE, h]
    rw [h] at hQ
    cases b
    all_goals
      conv => whnf
      refine ⟨l, rfl, hl.b, hl.len, ?_⟩
      rw [e1, e2, e3]
      conv => whnf
      refine Eq.mp ?_ hQ
      kernel_rfl
  | some y =>
    obtain ⟨n, x⟩ := y
    have e1 : bP l a 65536 = n := by simp [bP, h]
    have e2 : bX l a 65536 = x := by simp [bX, h]
    have e3 : bE l a 65536 = 0 := by simp [bE, h]
    rw [h] at hQ
    cases b
    all_goals
      conv => whnf
      refine ⟨l, rfl, hl.b, hl.len, ?_⟩
      rw [e1, e2, e3]
      conv => whnf
      refine Eq.mp ?_ hQ
      kernel_rfl

set_option maxRecDepth 100000 in
theorem s114 {T : Tab} (hT : TGood Tryd.prog T) : SGood Tryd.prog 114 (pureT g114) := pureT_good g114_det fun args Q h => by
  unfold g114 at h
  split at h
  · obtain ⟨l, rfl, hl, hQ⟩ := h
    have t0 := ext_good hT (s133 hT)
    exact body_pure t0 mixedT Tryd.func114 (entersOf Tryd.func114 (by kernel_rfl) rfl) 0 (f114_ok l _ _ hl T Q hQ 0)
  · exact h.elim


def g134 : GSpec := fun args K => match args with
  | [.agg [.slice es, .int .i64 a, .bool b]] => ∃ l : List Int, es = bsA l ∧ OkL l ∧ K (.ret (.tuple [.agg (inS l (dMany l (a, b)).1), .int .i64 (dMany l (a, b)).2]))
  | _ => False
theorem g134_det (args : List AV) : Det (g134 args) := by
  unfold g134
  repeat' (first | exact Det.no | exact Det.at _ | refine Det.and ?_ | refine Det.ex fun _ => ?_ | refine Det.cond ?_ ?_ | split)

set_option maxRecDepth 100000 in
set_option maxHeartbeats 8000000 in
theorem f134_ok (l : List Int) (a : Int) (b : Bool) (hl : OkL l) (T : Tab) (Q : AOut → Prop) (hQ : Q (.ret (.tuple [.agg (inS l (dMany l (a, b)).1), .int .i64 (dMany l (a, b)).2]))) (N : Nat) :
    abody Tryd.prog (ext T 61 (pureT g61)) 0 N Tryd.f134 [.agg (inS l (a, b))] [] (fun out Hs => Q (frzO Hs out)) := by
  unfold dMany at hQ
  dsimp only at hQ
  conv => whnf
  refine ⟨l, rfl, hl, ?_⟩
  conv => whnf
  split
  · rename_i h; have h : decide ((dNum l (a, b)).2 > 64) = true := h
    rw [h] at hQ
    conv => whnf
    refine Eq.mp ?_ hQ
    kernel_rfl
  · rename_i h; have h : decide ((dNum l (a, b)).2 > 64) = false := h
    rw [h] at hQ
    conv => whnf
    refine Eq.mp ?_ hQ
    kernel_rfl

set_option maxRecDepth 100000 in
theorem s134 {T : Tab} (hT : TGood Tryd.prog T) : SGood Tryd.prog 134 (pureT g134) := pureT_good g134_det fun args Q h => by
  unfold g134 at h
  split at h
  · obtain ⟨l, rfl, hl, hQ⟩ := h
    have t0 := ext_good hT (s61 hT)
    exact body_pure t0 mixedT Tryd.func134 (entersOf Tryd.func134 (by kernel_rfl) rfl) 0 (f134_ok l _ _ hl T Q hQ 0)
  · exact h.elim

def dReq (l : List Int) (s0 : DS) : DS × RqV :=
  let r1 := dNum l s0
  let r2 := dNum l r1.1
  let r3 := dText l r2.1
  let r4 := dText l r3.1
  (r4.1, (⟨r1.2, r2.2, r3.2, r4.2⟩ : RqV))

def g113 : GSpec := fun args K => match args with
  | [.agg [.slice es, .int .i64 a, .bool b]] => ∃ l : List Int, es = bsA l ∧ OkL l ∧ K (.ret (.tuple [.agg (inS l (dReq l (a, b)).1), .agg (rqC (dReq l (a, b)).2)]))
  | _ => False
theorem g113_det (args : List AV) : Det (g113 args) := by
  unfold g113
  repeat' (first | exact Det.no | exact Det.at _ | refine Det.and ?_ | refine Det.ex fun _ => ?_ | refine Det.cond ?_ ?_ | split)

set_option maxRecDepth 100000 in
set_option maxHeartbeats 8000000 in
theorem f113_ok (l : List Int) (a : Int) (b : Bool) (hl : OkL l) (T : Tab) (Q : AOut → Prop) (hQ : Q (.ret (.tuple [.agg (inS l (dReq l (a, b)).1), .agg (rqC (dReq l (a, b)).2)]))) (N : Nat) :
    abody Tryd.prog (ext (ext T 61 (pureT g61)) 114 (pureT g114)) 0 N Tryd.f113 [.agg (inS l (a, b))] [] (fun out Hs => Q (frzO Hs out)) := by
  conv => whnf
  refine ⟨l, rfl, hl, ?_⟩
  conv => whnf
  refine ⟨l, rfl, hl, ?_⟩
  conv => whnf
  refine ⟨l, rfl, hl, ?_⟩
  conv => whnf
  refine ⟨l, rfl, hl, ?_⟩
  conv => whnf
  refine Exists.intro [2, 3] ?_
  conv => whnf
  repeat (refine ⟨by (conv => whnf); exact ⟨rfl, rfl⟩, ?_⟩; conv => whnf)
  refine Eq.mp ?_ hQ
  kernel_rfl

set_option maxRecDepth 100000 in
theorem s113 {T : Tab} (hT : TGood Tryd.prog T) : SGood Tryd.prog 113 (pureT g113) := pureT_good g113_det fun args Q h => by
  unfold g113 at h
  split at h
  · obtain ⟨l, rfl, hl, hQ⟩ := h
    have t0 := ext_good hT (s61 hT)
    have t1 := ext_good t0 (s114 t0)
    exact body_pure t1 mixedT Tryd.func113 (entersOf Tryd.func113 (by kernel_rfl) rfl) 0 (f113_ok l _ _ hl T Q hQ 0)
  · exact h.elim

end Go.Abs

/-
catenaryref05.getVotes is what it comes to.
-/
namespace Go.Abs
open Go Go.Proofs

def zc : List (List AV) → AV
  | [] => .zslice
  | x :: l => .slice (x :: l)
def rowVn (k : Nat) (l : List (List AV)) : AV := match l with | [] => .zslice | _ => .row k
/-- Items read until there are so many, or until one isn't there. -/
def dLoop {α : Type} (d : DS → DS × α) : Nat → DS → DS × List α
  | 0, s => (s, [])
  | n + 1, s => cond s.2 (s, []) (let r := d s; let t := dLoop d n r.1; (t.1, r.2 :: t.2))
def dVote (l : List Int) (s : DS) : DS × VtV :=
  let r1 := dNum l s
  let r2 := dText l r1.1
  (r2.1, ⟨r1.2, r2.2⟩)
def dVotes (l : List Int) (s : DS) : DS × List VtV :=
  let r := dMany l s
  dLoop (dVote l) r.2.toNat r.1

def g115 : GSpec := fun args K => match args with
  | [.agg [.slice es, .int .i64 a, .bool b]] => ∃ l : List Int, es = bsA l ∧ OkL l ∧ K (.ret (.tuple [.agg (inS l (dVotes l (a, b)).1), .slice (vtCL (dVotes l (a, b)).2)]))
  | _ => False
theorem g115_det (args : List AV) : Det (g115 args) := by
  unfold g115
  repeat' (first | exact Det.no | exact Det.at _ | refine Det.and ?_ | refine Det.ex fun _ => ?_ | refine Det.cond ?_ ?_ | split)

theorem dMany_le (l : List Int) (s : DS) : (dMany l s).2 ≤ 64 := by
  unfold dMany
  dsimp only
  cases h : decide ((dNum l s).2 > 64) with
  | true => exact (by decide : (0 : Int) ≤ 64)
  | false => have h := of_decide_eq_false h; exact Int.not_lt.1 h
theorem dLoop_stop {α : Type} (d : DS → DS × α) (n : Nat) (a : Int) : dLoop d n (a, true) = ((a, true), []) := by cases n <;> rfl
theorem dLoop_next {α : Type} (d : DS → DS × α) (n : Nat) (a : Int) (s : DS) (x : α) (h : d (a, false) = (s, x)) : dLoop d (n + 1) (a, false) = ((dLoop d n s).1, x :: (dLoop d n s).2) := by
  simp only [dLoop, h, _root_.cond_false]

set_option maxRecDepth 100000 in
set_option maxHeartbeats 8000000 in
theorem f115_ok (l : List Int) (a : Int) (b : Bool) (hl : OkL l) (T : Tab) (Q : AOut → Prop) (hQ : Q (.ret (.tuple [.agg (inS l (dVotes l (a, b)).1), .slice (vtCL (dVotes l (a, b)).2)]))) (N : Nat) (hN : 64 < N) :
    abody Tryd.prog (ext (ext (ext T 61 (pureT g61)) 114 (pureT g114)) 134 (pureT g134)) 0 N Tryd.f115 [.agg (inS l (a, b))] [] (fun out Hs => Q (frzO Hs out)) := by
  unfold dVotes at hQ
  dsimp only at hQ
  conv => whnf
  refine ⟨l, rfl, hl, ?_⟩
  have hm := dMany_le l (a, b)
  generalize dMany l (a, b) = r0 at hQ hm ⊢
  obtain ⟨⟨a0, b0⟩, n⟩ := r0
  dsimp only at hQ hm
  conv => whnf
  refine aloop_at ?_ ?_ (aloop_inv (σ := Nat × List VtV × Int × Bool) (fun s => ((sp 0 43 [(1, .ptr 0 0), (2, .ptr 1 0), (4, rowVn 2 (vtCL s.2.1)), (5, .int .i64 n), (6, .int .i64 (s.1 : Nat))]), .var (inS l s.2.2) :: .var [.zslice, .int .i64 0, .bool false] :: rowH1 106 2 (vtCL s.2.1)))
    (fun s => s.1 ≤ n.toNat ∧ s.2.1.length ≤ 64 ∧ s.2.1.length = s.1 ∧ dLoop (dVote l) n.toNat (a0, b0) = ((dLoop (dVote l) (n.toNat - s.1) s.2.2).1, s.2.1 ++ (dLoop (dVote l) (n.toNat - s.1) s.2.2).2)) (fun s => n.toNat - s.1) ?_ N (0, [], (a0, b0)) ⟨Nat.zero_le _, Nat.zero_le _, rfl, rfl⟩ (by dsimp only; omega))
  · kernel_rfl
  · kernel_rfl
  clear hN
  rintro ⟨i, acc, a, b⟩ ⟨i1, i2, i4, i3⟩ R hR
  dsimp only at i1 i2 i3 i4
  have hcl : (vtCL acc).length = i := by simp [vtCL, i4]
  have hend : n.toNat - i = 0 ∨ b = true → dLoop (dVote l) n.toNat (a0, b0) = ((a, b), acc) := fun h => by
    rw [i3]
    rcases h with h | h
    · rw [h]; simp [dLoop]
    · subst h; simp [dLoop_stop]
  rcases acc with _ | ⟨x, xs⟩
  · conv => whnf
    split
    rotate_left
    · rename_i h3; have h3 : ¬ (i : Int) < n := of_decide_eq_false h3
      have hx := hend (.inl (by omega))
      clear hend hR
      rw [hx] at hQ
      conv => whnf
      refine Eq.mp ?_ hQ
      kernel_rfl
    rename_i h3; have h3 : (i : Int) < n := of_decide_eq_true h3
    cases b with
    | true =>
      have hx := hend (.inr rfl)
      clear hend hR
      rw [hx] at hQ
      conv => whnf
      refine Eq.mp ?_ hQ
      kernel_rfl
    | false =>
      clear hend
      have hi1 : IntKind.i64.wrap ((i : Int) + 1) = ((i + 1 : Nat) : Int) := by rw [IntWalk.i64_in _ (by omega)]; omega
      obtain ⟨k, hk⟩ : ∃ k, n.toNat - i = k + 1 := ⟨n.toNat - i - 1, by omega⟩
      have hk2 : n.toNat - (i + 1) = k := by omega
      rw [hk] at i3
      conv => whnf
      refine ⟨l, rfl, hl, ?_⟩
      rcases h21 : dNum l (a, false) with ⟨⟨a21, b21⟩, v21⟩
      conv => whnf
      refine ⟨l, rfl, hl, ?_⟩
      rcases h22 : dText l (a21, b21) with ⟨⟨a22, b22⟩, v22⟩
      conv => whnf
      have hit : dVote l (a, false) = ((a22, b22), ⟨v21, v22⟩) := by simp only [dVote, h21, h22]
      rw [dLoop_next _ _ _ _ _ hit] at i3
      refine ⟨fits_at (ys' := [vtC ⟨v21, v22⟩]) (by kernel_rfl) (fits_one' (by kernel_rfl) (by kernel_rfl) (Nat.le_trans (Nat.le_of_eq hcl) (by omega))), ?_⟩
      conv => whnf
      refine R_at ?_ ?_ (hR (i + 1, [⟨v21, v22⟩], a22, b22) ⟨by omega, (by decide : 1 ≤ 64), by simp at i4 ⊢; omega, by rw [hk2]; exact i3⟩ (by dsimp only; omega))
      · rw [← hi1]; kernel_rfl
      · kernel_rfl
  · conv => whnf
    split
    rotate_left
    · rename_i h3; have h3 : ¬ (i : Int) < n := of_decide_eq_false h3
      have hx := hend (.inl (by omega))
      clear hend hR
      rw [hx] at hQ
      conv => whnf
      refine Eq.mp ?_ hQ
      kernel_rfl
    rename_i h3; have h3 : (i : Int) < n := of_decide_eq_true h3
    cases b with
    | true =>
      have hx := hend (.inr rfl)
      clear hend hR
      rw [hx] at hQ
      conv => whnf
      refine Eq.mp ?_ hQ
      kernel_rfl
    | false =>
      clear hend
      have hi1 : IntKind.i64.wrap ((i : Int) + 1) = ((i + 1 : Nat) : Int) := by rw [IntWalk.i64_in _ (by omega)]; omega
      obtain ⟨k, hk⟩ : ∃ k, n.toNat - i = k + 1 := ⟨n.toNat - i - 1, by omega⟩
      have hk2 : n.toNat - (i + 1) = k := by omega
      rw [hk] at i3
      conv => whnf
      refine ⟨l, rfl, hl, ?_⟩
      rcases h21 : dNum l (a, false) with ⟨⟨a21, b21⟩, v21⟩
      conv => whnf
      refine ⟨l, rfl, hl, ?_⟩
      rcases h22 : dText l (a21, b21) with ⟨⟨a22, b22⟩, v22⟩
      conv => whnf
      have hit : dVote l (a, false) = ((a22, b22), ⟨v21, v22⟩) := by simp only [dVote, h21, h22]
      rw [dLoop_next _ _ _ _ _ hit] at i3
      refine ⟨fits_at (ys' := [vtC ⟨v21, v22⟩]) (by kernel_rfl) (fits_one' (by kernel_rfl) (by kernel_rfl) (Nat.le_trans (Nat.le_of_eq hcl) (by omega))), ?_⟩
      conv => whnf
      refine R_at ?_ ?_ (hR (i + 1, (x :: xs) ++ [⟨v21, v22⟩], a22, b22) ⟨by omega, by simp at i4 ⊢; omega, by simp at i4 ⊢; omega, by rw [hk2, i3]; simp⟩ (by dsimp only; omega))
      · rw [← hi1]; kernel_rfl
      · show _ = .var (inS l (a22, b22)) :: .var [.zslice, .int .i64 0, .bool false] :: rowH1 106 2 (vtCL ((x :: xs) ++ [⟨v21, v22⟩]))
        rw [show vtCL ((x :: xs) ++ [(⟨v21, v22⟩ : VtV)]) = vtCL (x :: xs) ++ [vtC ⟨v21, v22⟩] by simp [vtCL]]
        kernel_rfl

set_option maxRecDepth 100000 in
theorem s115 {T : Tab} (hT : TGood Tryd.prog T) : SGood Tryd.prog 115 (pureT g115) := pureT_good g115_det fun args Q h => by
  unfold g115 at h
  split at h
  · obtain ⟨l, rfl, hl, hQ⟩ := h
    have t0 := ext_good hT (s61 hT)
    have t1 := ext_good t0 (s114 t0)
    have t2 := ext_good t1 (s134 t1)
    exact body_pure t2 mixedT Tryd.func115 (entersOf Tryd.func115 (by kernel_rfl) rfl) 65 (f115_ok l _ _ hl T Q hQ 65 (by omega))
  · exact h.elim

end Go.Abs

/-
An abstract machine over values as trees: callees that touch no object, where nil slices among a struct's last cells stay such.
-/
namespace Go.Abs
open Go
variable {P : Program}

/-- A cell that is handed on: a nil slice stays one. -/
def frzZ (H : Heap) : AV → AV × Heap
  | .zslice => (.zslice, H)
  | v => frz H v
def frzsN (H : Heap) : Nat → List AV → List AV × Heap
  | _, [] => ([], H)
  | 0, x :: r =>
    let (y, H1) := frzZ H x
    let (s, H2) := frzsN H1 0 r
    (y :: s, H2)
  | n + 1, x :: r =>
    let (y, H1) := frz H x
    let (s, H2) := frzsN H1 n r
    (y :: s, H2)
def frzN (n : Nat) (H : Heap) : AV → AV × Heap
  | .agg cs => let (r, H') := frzsN H n cs; (.agg r, H')
  | v => frz H v
def frzNs (n : Nat) (H : Heap) : List AV → List AV × Heap
  | [] => ([], H)
  | x :: r =>
    let (y, H1) := frzN n H x
    let (s, H2) := frzNs n H1 r
    (y :: s, H2)

theorem frzZ_sound {Mx : Mut} {G : Gh} {w : World} {H : Heap} (hs : Sim Mx G H w) {v : Value} {x : AV} (hx : RV w (MM Mx G H) H.length G v x) :
    Sim Mx G (frzZ H x).2 w ∧ Step H.length Mx G H w G (frzZ H x).2 w ∧ (frzZ H x).2.length = H.length ∧ RV w (MM Mx G (frzZ H x).2) 0 G0 v (frzZ H x).1 := by
  cases x with
  | zslice =>
    obtain ⟨A, rfl⟩ := hx.zslice_inv
    exact ⟨hs, Step.refl, rfl, .zslice ..⟩
  | _ => exact frz_sound hs hx

theorem frzsN_sound {Mx : Mut} {G : Gh} {w : World} : ∀ (n : Nat) (xs : List AV) (H : Heap) (vs : List Value), Sim Mx G H w → vs.length = xs.length →
    (∀ (i : Nat) v x, vs[i]? = some v → xs[i]? = some x → RV w (MM Mx G H) H.length G v x) →
    Sim Mx G (frzsN H n xs).2 w ∧ Step H.length Mx G H w G (frzsN H n xs).2 w ∧ (frzsN H n xs).2.length = H.length ∧ (frzsN H n xs).1.length = xs.length ∧
      ∀ (i : Nat) v y, vs[i]? = some v → (frzsN H n xs).1[i]? = some y → RV w (MM Mx G (frzsN H n xs).2) 0 G0 v y
  | n, [], H, vs, hs, _, _ => by
    cases n <;> exact ⟨hs, Step.refl, rfl, rfl, fun i v y _ h => by simp [frzsN] at h⟩
  | n, x :: r, H, [], hs, hl, _ => by simp at hl
  | 0, x :: r, H, v :: vs, hs, hl, hx => by
    obtain ⟨h1, h2, h3, h4⟩ := frzZ_sound hs (hx 0 v x rfl rfl)
    obtain ⟨k1, k2, k3, k4, k5⟩ := frzsN_sound 0 r (frzZ H x).2 vs h1 (by simpa using hl) (fun i u y e1 e2 => h2.rv (hx (i + 1) u y (by simpa using e1) (by simpa using e2)))
    refine ⟨k1, h2.trans (by omega) k2, by simp only [frzsN]; omega, by simp only [frzsN, List.length_cons]; omega, fun i u y e1 e2 => ?_⟩
    cases i with
    | zero =>
      simp only [frzsN, List.getElem?_cons_zero, Option.some.injEq] at e1 e2
      subst e1; subst e2
      exact h4.mono (fun k i v g1 g2 => k2.still k i v g1 g2) (Nat.le_refl _) (fun _ _ _ h => h)
    | succ i =>
      simp only [frzsN, List.getElem?_cons_succ] at e1 e2
      exact k5 i u y e1 e2
  | n + 1, x :: r, H, v :: vs, hs, hl, hx => by
    obtain ⟨h1, h2, h3, h4⟩ := frz_sound hs (hx 0 v x rfl rfl)
    obtain ⟨k1, k2, k3, k4, k5⟩ := frzsN_sound n r (frz H x).2 vs h1 (by simpa using hl) (fun i u y e1 e2 => h2.rv (hx (i + 1) u y (by simpa using e1) (by simpa using e2)))
    refine ⟨k1, h2.trans (by omega) k2, by simp only [frzsN]; omega, by simp only [frzsN, List.length_cons]; omega, fun i u y e1 e2 => ?_⟩
    cases i with
    | zero =>
      simp only [frzsN, List.getElem?_cons_zero, Option.some.injEq] at e1 e2
      subst e1; subst e2
      exact h4.mono (fun k i v g1 g2 => k2.still k i v g1 g2) (Nat.le_refl _) (fun _ _ _ h => h)
    | succ i =>
      simp only [frzsN, List.getElem?_cons_succ] at e1 e2
      exact k5 i u y e1 e2

theorem frzN_sound (n : Nat) {Mx : Mut} {G : Gh} {w : World} {H : Heap} (hs : Sim Mx G H w) {v : Value} {x : AV} (hx : RV w (MM Mx G H) H.length G v x) :
    Sim Mx G (frzN n H x).2 w ∧ Step H.length Mx G H w G (frzN n H x).2 w ∧ (frzN n H x).2.length = H.length ∧ RV w (MM Mx G (frzN n H x).2) 0 G0 v (frzN n H x).1 := by
  cases x with
  | agg cs =>
    obtain ⟨vs, rfl, hl, hc⟩ := hx.agg_inv
    obtain ⟨h1, h2, h3, h4, h5⟩ := frzsN_sound n cs H vs.toList hs (by simpa using hl) (fun i u y e1 e2 => hc i u y (by simpa using e1) e2)
    exact ⟨h1, h2, h3, .agg _ _ _ _ (by rw [hl]; exact h4.symm) (fun i u y e1 e2 => h5 i u y (by simpa using e1) e2)⟩
  | _ => exact frz_sound hs hx

theorem frzNs_sound (n : Nat) {Mx : Mut} {G : Gh} {w : World} : ∀ (xs : List AV) (H : Heap) (vs : List Value), Sim Mx G H w → vs.length = xs.length →
    (∀ (i : Nat) v x, vs[i]? = some v → xs[i]? = some x → RV w (MM Mx G H) H.length G v x) →
    Sim Mx G (frzNs n H xs).2 w ∧ Step H.length Mx G H w G (frzNs n H xs).2 w ∧ (frzNs n H xs).2.length = H.length ∧ (frzNs n H xs).1.length = xs.length ∧
      ∀ (i : Nat) v y, vs[i]? = some v → (frzNs n H xs).1[i]? = some y → RV w (MM Mx G (frzNs n H xs).2) 0 G0 v y
  | [], H, vs, hs, _, _ => ⟨hs, Step.refl, rfl, rfl, fun i v y _ h => by simp [frzNs] at h⟩
  | x :: r, H, [], hs, hl, _ => by simp at hl
  | x :: r, H, v :: vs, hs, hl, hx => by
    obtain ⟨h1, h2, h3, h4⟩ := frzN_sound n hs (hx 0 v x rfl rfl)
    obtain ⟨k1, k2, k3, k4, k5⟩ := frzNs_sound n r (frzN n H x).2 vs h1 (by simpa using hl) (fun i u y e1 e2 => h2.rv (hx (i + 1) u y (by simpa using e1) (by simpa using e2)))
    refine ⟨k1, h2.trans (by omega) k2, by simp only [frzNs]; omega, by simp only [frzNs, List.length_cons]; omega, fun i u y e1 e2 => ?_⟩
    cases i with
    | zero =>
      simp only [frzNs, List.getElem?_cons_zero, Option.some.injEq] at e1 e2
      subst e1; subst e2
      exact h4.mono (fun k i v g1 g2 => k2.still k i v g1 g2) (Nat.le_refl _) (fun _ _ _ h => h)
    | succ i =>
      simp only [frzNs, List.getElem?_cons_succ] at e1 e2
      exact k5 i u y e1 e2

def frzON (n : Nat) (H : Heap) : AOut → AOut
  | .ret (.tuple vs) => .ret (.tuple (frzNs n H vs).1)
  | .ret v => .ret (frzN n H v).1
  | .pan v => .pan (cond (flat v) v .any)

theorem frozN_ok (n : Nat) {f : FuncId} {args : List AV} {Q : AOut → Prop} (h : FOK P f args [] fun out Hs => Q (frzON n Hs out)) : FOK P f args [] fun out Hs => Hs = [] ∧ Q out := by
  refine ⟨h.1, fun Mx G w cargs hs ht => (h.2 Mx G w cargs hs ht).mono fun e w' ⟨out, H', G', h1, h2, h3, h4⟩ => ?_⟩
  have hG : ∀ b l, G b = some l → False := fun b l hb => absurd (hs.dom b l hb) (Nat.not_lt_zero _)
  have hst : Step ([] : Heap).length Mx G [] w G0 [] w' := ⟨h1.os, h1.tape, h1.output, h1.size, ⟨Nat.le_refl _, Nat.le_refl _⟩, h1.far, fun k i v g1 g2 => ⟨(h1.still k i v g1 g2).1, fun hm => by
      rcases hm with hm | ⟨b, l, o, hb, _⟩
      · exact g2 (.inl hm)
      · cases hb⟩, fun b l hb => absurd hb (Nat.not_lt_zero _), fun b l k hb => by cases hb⟩
  have hsim : Sim Mx G0 [] w' := ⟨fun b l hb => (by cases hb), fun b o hb => (by simp at hb), fun b b' l l' k hb => (by cases hb), fun b l k i hb => (by cases hb), fun k i hm => Nat.lt_of_lt_of_le (hs.lt k i hm) h1.size⟩
  have drop : ∀ {Hf : Heap} {v x}, RV w' (MM Mx G' Hf) 0 G0 v x → RV w' (MM Mx G0 []) ([] : Heap).length G0 v x := fun hv => hv.mono (fun k i v g1 g2 => ⟨g1, fun hm => by
      rcases hm with hm | ⟨b, l, o, hb, _⟩
      · exact g2 (.inl hm)
      · cases hb⟩) (Nat.le_refl _) (fun _ _ _ h => h)
  refine ⟨_, [], G0, hst, hsim, ?_, rfl, h4⟩
  cases h3 with
  | pan v x hr =>
    have hp : frzON n H' (.pan x) = .pan (cond (flat x) x .any) := rfl
    rw [hp]
    cases hf : flat x with
    | true => exact .pan v x (hr.flat hf)
    | false => exact .pan v _ (.any ..)
  | ret v x hr =>
    have one : ER w' (MM Mx G0 []) ([] : Heap).length G0 (.returned v) (.ret (frzN n H' x).1) := .ret _ _ (drop (frzN_sound n h2 hr).2.2.2)
    unfold frzON
    split
    · rename_i vs he
      cases he
      obtain ⟨cs, rfl, hl, hc⟩ := hr.tuple_inv
      obtain ⟨k1, k2, k3, k4, k5⟩ := frzNs_sound n vs H' cs.toList h2 (by simpa using hl) (fun i v x e1 e2 => hc i v x (by simpa using e1) e2)
      exact .ret _ _ (.tuple _ _ _ _ (by rw [k4]; exact hl) (fun i v y e1 e2 => drop (k5 i v y (by simpa using e1) e2)))
    · rename_i he
      cases he
      exact one
    · rename_i he
      cases he

theorem body_zT (n : Nat) {T : Tab} (hT : TGood P T) (hm : P.follows .mixedOrders = true) {f : FuncId} {fn : Func} (hf : P.funcs[f]? = some fn) (hent : Enters P f) (N : Nat) {args : List AV} {Q : AOut → Prop}
    (h : abody P T 0 N fn args [] fun out Hs => Q (frzON n Hs out)) : FOK P f args [] fun out Hs => Hs = [] ∧ Q out :=
  frozN_ok n (abody_sound hT.ok hT.ang hT.mono hm hf hent (N := N) (H := []) h)

end Go.Abs

/-
catenaryref05.getReport is what it comes to.
-/
namespace Go.Abs
open Go Go.Proofs

def dPrep (l : List Int) (s : DS) : DS × PrV :=
  let r1 := dNum l s
  let r2 := dNum l r1.1
  let r3 := dNum l r2.1
  let r4 := dReq l r3.1
  let r5 := dVotes l r4.1
  (r5.1, ⟨r1.2, ⟨r2.2, r3.2⟩, r4.2, r5.2⟩)
def dReport (l : List Int) (s : DS) : DS × RpV :=
  let r1 := dNum l s
  let r2 := dNum l r1.1
  let r3 := dNum l r2.1
  let r4 := dNum l r3.1
  let r5 := dText l r4.1
  let r6 := dVotes l r5.1
  let r7 := dMany l r6.1
  let r8 := dLoop (dPrep l) r7.2.toNat r7.1
  let r9 := dText l r8.1
  (r9.1, ⟨⟨r1.2, r2.2⟩, r3.2, r4.2, r5.2, r6.2, r8.2, r9.2⟩)

def g135 : GSpec := fun args K => match args with
  | [.agg [.slice es, .int .i64 a, .bool b]] => ∃ l : List Int, es = bsA l ∧ OkL l ∧ K (.ret (.tuple [.agg (inS l (dReport l (a, b)).1), .agg (rpC (dReport l (a, b)).2)]))
  | _ => False
theorem g135_det (args : List AV) : Det (g135 args) := by
  unfold g135
  repeat' (first | exact Det.no | exact Det.at _ | refine Det.and ?_ | refine Det.ex fun _ => ?_ | refine Det.cond ?_ ?_ | split)

def T135 (T : Tab) : Tab := ext (ext (ext (ext (ext T 61 (pureT g61)) 114 (pureT g114)) 134 (pureT g134)) 113 (pureT g113)) 115 (pureT g115)
theorem T135_good {T : Tab} (hT : TGood Tryd.prog T) : TGood Tryd.prog (T135 T) := by
  have t0 := ext_good hT (s61 hT)
  have t1 := ext_good t0 (s114 t0)
  have t2 := ext_good t1 (s134 t1)
  have t3 := ext_good t2 (s113 t2)
  exact ext_good t3 (s115 t3)

set_option maxRecDepth 100000 in
set_option maxHeartbeats 16000000 in
theorem f135_ok (l : List Int) (a : Int) (b : Bool) (hl : OkL l) (T : Tab) (Q : AOut → Prop) (hQ : Q (.ret (.tuple [.agg (inS l (dReport l (a, b)).1), .agg (rpC (dReport l (a, b)).2)]))) (N : Nat) (hN : 64 < N) :
    abody Tryd.prog (T135 T) 0 N Tryd.f135 [.agg (inS l (a, b))] [] (fun out Hs => Q (frzO Hs out)) := by
  conv => whnf
  refine ⟨l, rfl, hl, ?_⟩
  rcases h1 : dNum l (a, b) with ⟨⟨a1, b1⟩, v1⟩
  conv => whnf
  refine ⟨l, rfl, hl, ?_⟩
  rcases h2 : dNum l (a1, b1) with ⟨⟨a2, b2⟩, v2⟩
  conv => whnf
  refine ⟨l, rfl, hl, ?_⟩
  rcases h3 : dNum l (a2, b2) with ⟨⟨a3, b3⟩, v3⟩
  conv => whnf
  refine ⟨l, rfl, hl, ?_⟩
  rcases h4 : dNum l (a3, b3) with ⟨⟨a4, b4⟩, v4⟩
  conv => whnf
  refine ⟨l, rfl, hl, ?_⟩
  rcases h5 : dText l (a4, b4) with ⟨⟨a5, b5⟩, v5⟩
  conv => whnf
  refine ⟨l, rfl, hl, ?_⟩
  rcases h6 : dVotes l (a5, b5) with ⟨⟨a6, b6⟩, v6⟩
  conv => whnf
  refine ⟨l, rfl, hl, ?_⟩
  rcases h7 : dMany l (a6, b6) with ⟨⟨a7, b7⟩, v7⟩
  conv => whnf
  have hm : v7 ≤ 64 := by have := dMany_le l (a6, b6); rw [h7] at this; exact this
  simp only [dReport, h1, h2, h3, h4, h5, h6, h7] at hQ
  clear h1 h2 h3 h4 h5 h6 h7
  refine aloop_at ?_ ?_ (aloop_inv (σ := Nat × List PrV × Int × Bool) (fun s => ((sp 0 109 [(1, .ptr 0 0), (2, .ptr 1 0), (3, .ptr 2 0), (4, .ptr 3 0), (5, .int .i64 v7), (6, .int .i64 (s.1 : Nat))]), .var (inS l s.2.2) :: .var [.zslice, .int .i64 0, .bool false] :: .var [.int .i64 0, .int .i64 0, .int .i64 0, .int .i64 0, .zslice, .zslice, .zslice, .zslice] :: .var [.int .i64 v1, .int .i64 v2, .int .i64 v3, .int .i64 v4, .slice (bsA v5), .slice (vtCL v6), rowVn 4 (prCL s.2.1), .zslice] :: rowH1 132 8 (prCL s.2.1)))
    (fun s => s.1 ≤ v7.toNat ∧ s.2.1.length ≤ 64 ∧ s.2.1.length = s.1 ∧ dLoop (dPrep l) v7.toNat (a7, b7) = ((dLoop (dPrep l) (v7.toNat - s.1) s.2.2).1, s.2.1 ++ (dLoop (dPrep l) (v7.toNat - s.1) s.2.2).2)) (fun s => v7.toNat - s.1) ?_ N (0, [], (a7, b7)) ⟨Nat.zero_le _, Nat.zero_le _, rfl, rfl⟩ (by dsimp only; omega))
  · kernel_rfl
  · kernel_rfl
  clear hN
  rintro ⟨i, acc, a, b⟩ ⟨i1, i2, i4, i3⟩ R hR
  dsimp only at i1 i2 i3 i4
  have hcl : (prCL acc).length = i := by simp [prCL, i4]
  have hend : v7.toNat - i = 0 ∨ b = true → dLoop (dPrep l) v7.toNat (a7, b7) = ((a, b), acc) := fun h => by
    rw [i3]
    rcases h with h | h
    · rw [h]; simp [dLoop]
    · subst h; simp [dLoop_stop]
  rcases acc with _ | ⟨x, xs⟩
  · conv => whnf
    split
    rotate_left
    · rename_i h3; have h3 : ¬ (i : Int) < v7 := of_decide_eq_false h3
      have hx := hend (.inl (by omega))
      clear hend hR
      rw [hx] at hQ
      dsimp only at hQ
      conv => whnf
      refine ⟨l, rfl, hl, ?_⟩
      rcases h9 : dText l (a, b) with ⟨⟨a9, b9⟩, v9⟩
      rw [h9] at hQ
      conv => whnf
      refine Exists.intro [2, 3] ?_
      conv => whnf
      repeat (refine ⟨by (conv => whnf); exact ⟨rfl, rfl⟩, ?_⟩; conv => whnf)
      refine Eq.mp ?_ hQ
      kernel_rfl
    rename_i h3; have h3 : (i : Int) < v7 := of_decide_eq_true h3
    cases b with
    | true =>
      have hx := hend (.inr rfl)
      clear hend hR
      rw [hx] at hQ
      dsimp only at hQ
      conv => whnf
      refine ⟨l, rfl, hl, ?_⟩
      rcases h9 : dText l (a, true) with ⟨⟨a9, b9⟩, v9⟩
      rw [h9] at hQ
      conv => whnf
      refine Exists.intro [2, 3] ?_
      conv => whnf
      repeat (refine ⟨by (conv => whnf); exact ⟨rfl, rfl⟩, ?_⟩; conv => whnf)
      refine Eq.mp ?_ hQ
      kernel_rfl
    | false =>
      clear hend
      have hi1 : IntKind.i64.wrap ((i : Int) + 1) = ((i + 1 : Nat) : Int) := by rw [IntWalk.i64_in _ (by omega)]; omega
      obtain ⟨k, hk⟩ : ∃ k, v7.toNat - i = k + 1 := ⟨v7.toNat - i - 1, by omega⟩
      have hk2 : v7.toNat - (i + 1) = k := by omega
      rw [hk] at i3
      conv => whnf
      refine ⟨l, rfl, hl, ?_⟩
      rcases h21 : dNum l (a, false) with ⟨⟨a21, b21⟩, v21⟩
      conv => whnf
      refine ⟨l, rfl, hl, ?_⟩
      rcases h22 : dNum l (a21, b21) with ⟨⟨a22, b22⟩, v22⟩
      conv => whnf
      refine ⟨l, rfl, hl, ?_⟩
      rcases h23 : dNum l (a22, b22) with ⟨⟨a23, b23⟩, v23⟩
      conv => whnf
      refine ⟨l, rfl, hl, ?_⟩
      rcases h24 : dReq l (a23, b23) with ⟨⟨a24, b24⟩, v24⟩
      conv => whnf
      refine ⟨l, rfl, hl, ?_⟩
      rcases h25 : dVotes l (a24, b24) with ⟨⟨a25, b25⟩, v25⟩
      conv => whnf
      have hit : dPrep l (a, false) = ((a25, b25), ⟨v21, ⟨v22, v23⟩, v24, v25⟩) := by simp only [dPrep, h21, h22, h23, h24, h25]
      rw [dLoop_next _ _ _ _ _ hit] at i3
      refine ⟨fits_at (ys' := [prC ⟨v21, ⟨v22, v23⟩, v24, v25⟩]) (by kernel_rfl) (fits_one' (by kernel_rfl) (by kernel_rfl) (Nat.le_trans (Nat.le_of_eq hcl) (by omega))), ?_⟩
      conv => whnf
      refine R_at ?_ ?_ (hR (i + 1, [⟨v21, ⟨v22, v23⟩, v24, v25⟩], a25, b25) ⟨by omega, (by decide : 1 ≤ 64), by simp at i4 ⊢; omega, by rw [hk2]; exact i3⟩ (by dsimp only; omega))
      · rw [← hi1]; kernel_rfl
      · kernel_rfl
  · conv => whnf
    split
    rotate_left
    · rename_i h3; have h3 : ¬ (i : Int) < v7 := of_decide_eq_false h3
      have hx := hend (.inl (by omega))
      clear hend hR
      rw [hx] at hQ
      dsimp only at hQ
      conv => whnf
      refine ⟨l, rfl, hl, ?_⟩
      rcases h9 : dText l (a, b) with ⟨⟨a9, b9⟩, v9⟩
      rw [h9] at hQ
      conv => whnf
      refine Exists.intro [2, 3] ?_
      conv => whnf
      repeat (refine ⟨by (conv => whnf); exact ⟨rfl, rfl⟩, ?_⟩; conv => whnf)
      refine Eq.mp ?_ hQ
      kernel_rfl
    rename_i h3; have h3 : (i : Int) < v7 := of_decide_eq_true h3
    cases b with
    | true =>
      have hx := hend (.inr rfl)
      clear hend hR
      rw [hx] at hQ
      dsimp only at hQ
      conv => whnf
      refine ⟨l, rfl, hl, ?_⟩
      rcases h9 : dText l (a, true) with ⟨⟨a9, b9⟩, v9⟩
      rw [h9] at hQ
      conv => whnf
      refine Exists.intro [2, 3] ?_
      conv => whnf
      repeat (refine ⟨by (conv => whnf); exact ⟨rfl, rfl⟩, ?_⟩; conv => whnf)
      refine Eq.mp ?_ hQ
      kernel_rfl
    | false =>
      clear hend
      have hi1 : IntKind.i64.wrap ((i : Int) + 1) = ((i + 1 : Nat) : Int) := by rw [IntWalk.i64_in _ (by omega)]; omega
      obtain ⟨k, hk⟩ : ∃ k, v7.toNat - i = k + 1 := ⟨v7.toNat - i - 1, by omega⟩
      have hk2 : v7.toNat - (i + 1) = k := by omega
      rw [hk] at i3
      conv => whnf
      refine ⟨l, rfl, hl, ?_⟩
      rcases h21 : dNum l (a, false) with ⟨⟨a21, b21⟩, v21⟩
      conv => whnf
      refine ⟨l, rfl, hl, ?_⟩
      rcases h22 : dNum l (a21, b21) with ⟨⟨a22, b22⟩, v22⟩
      conv => whnf
      refine ⟨l, rfl, hl, ?_⟩
      rcases h23 : dNum l (a22, b22) with ⟨⟨a23, b23⟩, v23⟩
      conv => whnf
      refine ⟨l, rfl, hl, ?_⟩
      rcases h24 : dReq l (a23, b23) with ⟨⟨a24, b24⟩, v24⟩
      conv => whnf
      refine ⟨l, rfl, hl, ?_⟩
      rcases h25 : dVotes l (a24, b24) with ⟨⟨a25, b25⟩, v25⟩
      conv => whnf
      have hit : dPrep l (a, false) = ((a25, b25), ⟨v21, ⟨v22, v23⟩, v24, v25⟩) := by simp only [dPrep, h21, h22, h23, h24, h25]
      rw [dLoop_next _ _ _ _ _ hit] at i3
      refine ⟨fits_at (ys' := [prC ⟨v21, ⟨v22, v23⟩, v24, v25⟩]) (by kernel_rfl) (fits_one' (by kernel_rfl) (by kernel_rfl) (Nat.le_trans (Nat.le_of_eq hcl) (by omega))), ?_⟩
      conv => whnf
      refine R_at ?_ ?_ (hR (i + 1, (x :: xs) ++ [⟨v21, ⟨v22, v23⟩, v24, v25⟩], a25, b25) ⟨by omega, by simp at i4 ⊢; omega, by simp at i4 ⊢; omega, by rw [hk2, i3]; simp⟩ (by dsimp only; omega))
      · rw [← hi1]; kernel_rfl
      · show _ = .var (inS l (a25, b25)) :: .var [.zslice, .int .i64 0, .bool false] :: .var [.int .i64 0, .int .i64 0, .int .i64 0, .int .i64 0, .zslice, .zslice, .zslice, .zslice] :: .var [.int .i64 v1, .int .i64 v2, .int .i64 v3, .int .i64 v4, .slice (bsA v5), .slice (vtCL v6), rowVn 4 (prCL ((x :: xs) ++ [⟨v21, ⟨v22, v23⟩, v24, v25⟩])), .zslice] :: rowH1 132 8 (prCL ((x :: xs) ++ [⟨v21, ⟨v22, v23⟩, v24, v25⟩]))
        rw [show prCL ((x :: xs) ++ [(⟨v21, ⟨v22, v23⟩, v24, v25⟩ : PrV)]) = prCL (x :: xs) ++ [prC ⟨v21, ⟨v22, v23⟩, v24, v25⟩] by simp [prCL]]
        kernel_rfl

set_option maxRecDepth 100000 in
theorem s135 {T : Tab} (hT : TGood Tryd.prog T) : SGood Tryd.prog 135 (pureT g135) := pureT_good g135_det fun args Q h => by
  unfold g135 at h
  split at h
  · obtain ⟨l, rfl, hl, hQ⟩ := h
    exact body_pure (T135_good hT) mixedT Tryd.func135 (entersOf Tryd.func135 (by kernel_rfl) rfl) 65 (f135_ok l _ _ hl T Q hQ 65 (by omega))
  · exact h.elim

end Go.Abs

/-
Contracts of the document's getField and lists: a message's last fields are nil until they are read.
-/
namespace Go.Abs
open Go Go.Proofs
variable {P : Program}

def dList {α : Type} (l : List Int) (d : DS → DS × α) (s : DS) : DS × List α :=
  let r := dMany l s
  dLoop d r.2.toNat r.1
def dField (l : List Int) (s : DS) (m : MsV) : Nat → DS × MsV
  | 0 => let r1 := dNum l s; let r2 := dNum l r1.1; (r2.1, { m with bal := ⟨r1.2, r2.2⟩ })
  | 1 => let r := dNum l s; (r.1, { m with slot := r.2 })
  | 2 => let r := dNum l s; (r.1, { m with from_ := r.2 })
  | 3 => let r := dNum l s; (r.1, { m with to := r.2 })
  | 4 => let r := dNum l s; (r.1, { m with index := r.2 })
  | 5 => let r := dNum l s; (r.1, { m with count := r.2 })
  | 6 => let r := dReq l s; (r.1, { m with req := r.2 })
  | 7 => let r := dReq l s; (r.1, { m with other := r.2 })
  | 8 => let r := dText l s; (r.1, { m with data := r.2 })
  | 9 => let r := dText l s; (r.1, { m with sig := r.2 })
  | 10 => let r := dVotes l s; (r.1, { m with cert := r.2 })
  | 11 => let r := dVotes l s; (r.1, { m with votes := r.2 })
  | 12 => let r := dList l (dNum l) s; (r.1, { m with order := r.2 })
  | 13 => let r := dList l (dReq l) s; (r.1, { m with picks := r.2 })
  | 14 => let r := dList l (dReport l) s; (r.1, { m with reports := r.2 })
  | _ => (s, m)

/-- A message's cells: of the last three fields so many aren't nil. -/
def msS : Nat → MsV → List AV
  | 0, m => [.int .i64 m.kind, .int .i64 m.bal.view, .int .i64 m.bal.turn, .int .i64 m.slot, .int .i64 m.from_, .int .i64 m.to, .int .i64 m.index, .int .i64 m.count, .int .i64 m.req.client, .int .i64 m.req.stamp, .slice (bsA m.req.op), .slice (bsA m.req.sig), .int .i64 m.other.client, .int .i64 m.other.stamp, .slice (bsA m.other.op), .slice (bsA m.other.sig), .slice (bsA m.data), .slice (bsA m.sig), .slice (vtCL m.cert), .slice (vtCL m.votes), .zslice, .zslice, .zslice]
  | 1, m => [.int .i64 m.kind, .int .i64 m.bal.view, .int .i64 m.bal.turn, .int .i64 m.slot, .int .i64 m.from_, .int .i64 m.to, .int .i64 m.index, .int .i64 m.count, .int .i64 m.req.client, .int .i64 m.req.stamp, .slice (bsA m.req.op), .slice (bsA m.req.sig), .int .i64 m.other.client, .int .i64 m.other.stamp, .slice (bsA m.other.op), .slice (bsA m.other.sig), .slice (bsA m.data), .slice (bsA m.sig), .slice (vtCL m.cert), .slice (vtCL m.votes), .slice (inCL m.order), .zslice, .zslice]
  | 2, m => [.int .i64 m.kind, .int .i64 m.bal.view, .int .i64 m.bal.turn, .int .i64 m.slot, .int .i64 m.from_, .int .i64 m.to, .int .i64 m.index, .int .i64 m.count, .int .i64 m.req.client, .int .i64 m.req.stamp, .slice (bsA m.req.op), .slice (bsA m.req.sig), .int .i64 m.other.client, .int .i64 m.other.stamp, .slice (bsA m.other.op), .slice (bsA m.other.sig), .slice (bsA m.data), .slice (bsA m.sig), .slice (vtCL m.cert), .slice (vtCL m.votes), .slice (inCL m.order), .slice (rqCL m.picks), .zslice]
  | _, m => msC m
theorem msS_eq (m : MsV) : ∀ st, st ≤ 3 → msS st m = (msC m).take (20 + st) ++ List.replicate (3 - st) .zslice
  | 0, _ => rfl
  | 1, _ => rfl
  | 2, _ => rfl
  | 3, _ => rfl
  | n + 4, h => by omega
theorem msS_closed (m : MsV) : ∀ st, closeds (msS st m) = true
  | 0 => rfl
  | 1 => rfl
  | 2 => rfl
  | _ + 3 => rfl
def preS (i : Nat) : Nat := i - 12
def stg (i : Nat) : Nat := i - 11
def tailZ (i : Nat) (cs : List AV) : Prop := (i ≤ 12 → cs[20]? = some .zslice) ∧ (i ≤ 13 → cs[21]? = some .zslice) ∧ cs[22]? = some .zslice
def okTail (i : Nat) (m : MsV) : Prop := (i ≤ 12 → m.order = []) ∧ (i ≤ 13 → m.picks = []) ∧ m.reports = []
theorem okTail_of {i : Nat} {cs : List AV} {m : MsV} (h : cs.map unz = msC m) (hz : tailZ i cs) : okTail i m := by
  have e : ∀ j : Nat, cs[j]? = some .zslice → (msC m)[j]? = some (.slice []) := fun j hj => by rw [← h, List.getElem?_map, hj]; rfl
  refine ⟨fun hi => ?_, fun hi => ?_, ?_⟩
  · have := e 20 (hz.1 hi)
    simp only [msC, List.getElem?_cons_succ, List.getElem?_cons_zero, Option.some.injEq, AV.slice.injEq, inCL, List.map_eq_nil_iff] at this
    exact this
  · have := e 21 (hz.2.1 hi)
    simp only [msC, List.getElem?_cons_succ, List.getElem?_cons_zero, Option.some.injEq, AV.slice.injEq, rqCL, List.map_eq_nil_iff] at this
    exact this
  · have := e 22 hz.2.2
    simp only [msC, List.getElem?_cons_succ, List.getElem?_cons_zero, Option.some.injEq, AV.slice.injEq, rpCL, List.map_eq_nil_iff] at this
    exact this
theorem cells_pre {i : Nat} (hi : i < 15) {cs : List AV} {m : MsV} (h : cs.map unz = msC m) (hz : tailZ i cs) {j : Nat} {x y : AV} (hx : cs[j]? = some x) (hy : (msS (preS i) m)[j]? = some y) : y = x ∨ (x = .zslice ∧ y = .slice []) := by
  have hm : (msC m)[j]? = some (unz x) := by rw [← h, List.getElem?_map, hx]; rfl
  have hp : preS i ≤ 3 := by unfold preS; omega
  have hlen : j < 23 := (List.getElem?_eq_some_iff.1 hm).1
  rw [msS_eq m _ hp] at hy
  have htl : ((msC m).take (20 + preS i)).length = 20 + preS i := by rw [List.length_take]; show min _ 23 = _; omega
  by_cases hj : j < 20 + preS i
  · rw [List.getElem?_append_left (by rw [htl]; exact hj), List.getElem?_take_of_lt hj, hm, Option.some.injEq] at hy
    subst hy
    cases x <;> first | exact .inl rfl | exact .inr ⟨rfl, rfl⟩
  · rw [List.getElem?_append_right (by rw [htl]; omega)] at hy
    have hyz := (List.mem_replicate.1 (List.mem_of_getElem? hy)).2
    subst hyz
    refine .inl ?_
    have hc : cs[j]? = some .zslice := by
      unfold preS at hj
      have : j = 20 ∨ j = 21 ∨ j = 22 := by omega
      rcases this with rfl | rfl | rfl
      · exact hz.1 (by omega)
      · exact hz.2.1 (by omega)
      · exact hz.2.2
    rw [hx] at hc
    exact (Option.some.inj hc).symm

def fieldDT (lo : Nat) : Spec := fun args H Q => match args with
  | [.agg [.slice es, .int .i64 a, .bool b], .agg cs, .int .i64 j] => ∃ (l : List Int) (m : MsV) (i : Nat), es = bsA l ∧ cs.map unz = msC m ∧ tailZ i cs ∧ OkL l ∧ lo ≤ i ∧ i < 15 ∧ j = (i : Int) ∧
      Q (.ret (.tuple [.agg (inS l (dField l (a, b) m i).1), .agg (msS (stg i) (dField l (a, b) m i).2)])) H
  | _ => False
theorem fieldDT_inv {lo : Nat} {args : List AV} {H : Heap} {Q : AOut → Heap → Prop} (h : fieldDT lo args H Q) : ∃ (l : List Int) (s : DS) (cs : List AV) (m : MsV) (i : Nat), args = [.agg (inS l s), .agg cs, .int .i64 (i : Int)] ∧ cs.map unz = msC m ∧ tailZ i cs ∧ OkL l ∧ lo ≤ i ∧ i < 15 ∧
    Q (.ret (.tuple [.agg (inS l (dField l s m i).1), .agg (msS (stg i) (dField l s m i).2)])) H := by
  unfold fieldDT at h
  split at h
  · obtain ⟨l, m, i, rfl, h1, h2, h3, h4, h5, rfl, h6⟩ := h
    exact ⟨l, (_, _), _, m, i, rfl, h1, h2, h3, h4, h5, h6⟩
  · exact h.elim
theorem fieldDT_good {lo : Nat} {f : FuncId}
    (h : ∀ (l : List Int) (s : DS) (m : MsV) (i : Nat) (Q : AOut → Prop), OkL l → lo ≤ i → i < 15 → okTail i m → Q (.ret (.tuple [.agg (inS l (dField l s m i).1), .agg (msS (stg i) (dField l s m i).2)])) →
      FOK P f [.agg (inS l s), .agg (msS (preS i) m), .int .i64 (i : Int)] [] fun out Hs => Hs = [] ∧ Q out) : SGood P f (fieldDT lo) where
  ok := fun args H Q hg => by
    obtain ⟨l, s, cs, m, i, rfl, h1, h2, h3, h4, h5, hQ⟩ := fieldDT_inv hg
    have hc : closeds [.agg (inS l s), .agg (msS (preS i) m), .int .i64 (i : Int)] = true := by
      simp only [closeds, closed, msS_closed, inS, Bool.and_self]
    have base : FOK P f [.agg (inS l s), .agg (msS (preS i) m), .int .i64 (i : Int)] H Q := by
      refine sub_call (ids := []) List.nodup_nil (fun b hb => absurd hb List.not_mem_nil) ?_
      rw [renL_closed _ _ hc]
      refine (h l s m i (fun out => out = .ret (.tuple [.agg (inS l (dField l s m i).1), .agg (msS (stg i) (dField l s m i).2)])) h3 h4 h5 (okTail_of h1 h2) rfl).imp fun o Hs ⟨e1, e2⟩ => ?_
      subst e1; subst e2
      rw [mergeH_nil, List.map_nil, List.append_nil]
      have hc2 : closed (.tuple [.agg (inS l (dField l s m i).1), .agg (msS (stg i) (dField l s m i).2)]) = true := by
        simp only [closeds, closed, msS_closed, inS, Bool.and_self]
      simp only [outR]
      rw [ren_closed _ _ hc2]
      exact hQ
    refine ⟨base.1, fun Mx G w cargs hs ht => base.2 Mx G w cargs hs ⟨ht.1, fun k v x e1 e2 => ?_⟩⟩
    match k, e2 with
    | 0, e2 => exact ht.2 0 v x e1 e2
    | 1, e2 =>
      cases e2
      obtain ⟨vs, rfl, hvl, hvc⟩ := (ht.2 1 v (.agg cs) e1 rfl).agg_inv
      have hcl : cs.length = 23 := by have := congrArg List.length h1; simpa [msC] using this
      have hml : (msS (preS i) m).length = 23 := by
        have hp : preS i ≤ 3 := by unfold preS; omega
        rw [msS_eq m _ hp, List.length_append, List.length_take, List.length_replicate]
        show min _ 23 + _ = _
        omega
      refine .agg _ _ _ _ (by rw [hml, hvl, hcl]) fun j u y g1 g2 => ?_
      have hj : j < cs.length := by rw [hcl, ← hml]; exact (List.getElem?_eq_some_iff.1 g2).1
      have hr := hvc j u _ g1 (List.getElem?_eq_getElem hj)
      rcases cells_pre h5 h1 h2 (List.getElem?_eq_getElem hj) g2 with e | ⟨e, e'⟩
      · rw [e]; exact hr
      · subst e'
        rw [e] at hr
        obtain ⟨A, rfl⟩ := hr.zslice_inv
        exact .slice0 ..
    | 2, e2 => exact ht.2 2 v x e1 e2
    | k + 3, e2 => simp at e2
  ang := fun args H K hg => by
    obtain ⟨l, s, cs, m, i, rfl, h1, h2, h3, h4, h5, hQ⟩ := fieldDT_inv hg
    exact ⟨_, _, ⟨l, m, i, rfl, h1, h2, h3, h4, h5, rfl, rfl, rfl⟩, hQ⟩
  mono := fun args H K K' hk hg => by
    obtain ⟨l, s, cs, m, i, rfl, h1, h2, h3, h4, h5, hQ⟩ := fieldDT_inv hg
    exact ⟨l, m, i, rfl, h1, h2, h3, h4, h5, rfl, hk _ _ hQ⟩

end Go.Abs

/-
catenaryref05.lists is what it comes to.
-/
namespace Go.Abs
open Go Go.Proofs

def pO (k k' : Nat) (l : List (List AV)) : AV := match l with | [] => .ptr k 0 | _ => .ptr k' 0
def T116 (T : Tab) : Tab := ext (ext (ext (ext T 61 (pureT g61)) 134 (pureT g134)) 113 (pureT g113)) 135 (pureT g135)
theorem T116_good {T : Tab} (hT : TGood Tryd.prog T) : TGood Tryd.prog (T116 T) := by
  have t0 := ext_good hT (s61 hT)
  have t1 := ext_good t0 (s134 t0)
  have t2 := ext_good t1 (s113 t1)
  exact ext_good t2 (s135 t2)

set_option maxRecDepth 100000 in
set_option maxHeartbeats 16000000 in
theorem f116_ok12 (l : List Int) (a : Int) (b : Bool) (m : MsV) (hl : OkL l) (T : Tab) (Q : AOut → Prop) (hQ : Q (.ret (.tuple [.agg (inS l (dField l (a, b) m 12).1), .agg (msS 1 (dField l (a, b) m 12).2)]))) (N : Nat) (hN : 64 < N) :
    abody Tryd.prog (T116 T) 0 N Tryd.f116 [.agg (inS l (a, b)), .agg (msS 0 m), .int .i64 12] [] (fun out Hs => Q (frzON 21 Hs out)) := by
  conv => whnf
  refine ⟨l, rfl, hl, ?_⟩
  rcases h1 : dMany l (a, b) with ⟨⟨a1, b1⟩, v1⟩
  conv => whnf
  have hm : v1 ≤ 64 := by have := dMany_le l (a, b); rw [h1] at this; exact this
  simp only [dField, dList, h1] at hQ
  clear h1
  refine aloop_at ?_ ?_ (aloop_inv (σ := Nat × List Int × Int × Bool) (fun s => ((sp 0 74 [(2, .int .i64 12), (3, .ptr 0 0), (4, .ptr 1 0), (6, pO 2 3 (inCL s.2.1)), (7, pO 3 4 (inCL s.2.1)), (8, .int .i64 v1), (9, .int .i64 (s.1 : Nat))]), .var (inS l s.2.2) :: .var [.int .i64 m.kind, .int .i64 m.bal.view, .int .i64 m.bal.turn, .int .i64 m.slot, .int .i64 m.from_, .int .i64 m.to, .int .i64 m.index, .int .i64 m.count, .int .i64 m.req.client, .int .i64 m.req.stamp, .slice (bsA m.req.op), .slice (bsA m.req.sig), .int .i64 m.other.client, .int .i64 m.other.stamp, .slice (bsA m.other.op), .slice (bsA m.other.sig), .slice (bsA m.data), .slice (bsA m.sig), .slice (vtCL m.cert), .slice (vtCL m.votes), rowVn 2 (inCL s.2.1), .zslice, .zslice] :: (rowH1 3 1 (inCL s.2.1) ++ [.var [.zslice, .int .i64 0, .bool false], .var zC])))
    (fun s => s.1 ≤ v1.toNat ∧ s.2.1.length ≤ 64 ∧ s.2.1.length = s.1 ∧ dLoop (dNum l) v1.toNat (a1, b1) = ((dLoop (dNum l) (v1.toNat - s.1) s.2.2).1, s.2.1 ++ (dLoop (dNum l) (v1.toNat - s.1) s.2.2).2)) (fun s => v1.toNat - s.1) ?_ N (0, [], (a1, b1)) ⟨Nat.zero_le _, Nat.zero_le _, rfl, rfl⟩ (by dsimp only; omega))
  · kernel_rfl
  · kernel_rfl
  clear hN
  rintro ⟨i, acc, a, b⟩ ⟨i1, i2, i4, i3⟩ R hR
  dsimp only at i1 i2 i3 i4
  have hcl : (inCL acc).length = i := by simp [inCL, i4]
  have hend : v1.toNat - i = 0 ∨ b = true → dLoop (dNum l) v1.toNat (a1, b1) = ((a, b), acc) := fun h => by
    rw [i3]
    rcases h with h | h
    · rw [h]; simp [dLoop]
    · subst h; simp [dLoop_stop]
  rcases acc with _ | ⟨x, xs⟩
  · conv => whnf
    split
    rotate_left
    · rename_i h3; have h3 : ¬ (i : Int) < v1 := of_decide_eq_false h3
      have hx := hend (.inl (by omega))
      clear hend hR
      rw [hx] at hQ
      dsimp only at hQ
      conv => whnf
      refine Exists.intro [2, 3] ?_
      conv => whnf
      repeat (refine ⟨by (conv => whnf); exact ⟨rfl, rfl⟩, ?_⟩; conv => whnf)
      refine Eq.mp ?_ hQ
      kernel_rfl
    rename_i h3; have h3 : (i : Int) < v1 := of_decide_eq_true h3
    cases b with
    | true =>
      have hx := hend (.inr rfl)
      clear hend hR
      rw [hx] at hQ
      dsimp only at hQ
      conv => whnf
      refine Exists.intro [2, 3] ?_
      conv => whnf
      repeat (refine ⟨by (conv => whnf); exact ⟨rfl, rfl⟩, ?_⟩; conv => whnf)
      refine Eq.mp ?_ hQ
      kernel_rfl
    | false =>
      clear hend
      have hi1 : IntKind.i64.wrap ((i : Int) + 1) = ((i + 1 : Nat) : Int) := by rw [IntWalk.i64_in _ (by omega)]; omega
      obtain ⟨k, hk⟩ : ∃ k, v1.toNat - i = k + 1 := ⟨v1.toNat - i - 1, by omega⟩
      have hk2 : v1.toNat - (i + 1) = k := by omega
      rw [hk] at i3
      conv => whnf
      refine ⟨l, rfl, hl, ?_⟩
      rcases h21 : dNum l (a, false) with ⟨⟨a21, b21⟩, v21⟩
      conv => whnf
      have hit : dNum l (a, false) = ((a21, b21), v21) := by exact h21
      rw [dLoop_next _ _ _ _ _ hit] at i3
      refine ⟨fits_at (ys' := [inC v21]) (by kernel_rfl) (fits_one' (by kernel_rfl) (by kernel_rfl) (Nat.le_trans (Nat.le_of_eq hcl) (by omega))), ?_⟩
      conv => whnf
      refine R_at ?_ ?_ (hR (i + 1, [v21], a21, b21) ⟨by omega, (by decide : 1 ≤ 64), by simp at i4 ⊢; omega, by rw [hk2]; exact i3⟩ (by dsimp only; omega))
      · rw [← hi1]; kernel_rfl
      · kernel_rfl
  · conv => whnf
    split
    rotate_left
    · rename_i h3; have h3 : ¬ (i : Int) < v1 := of_decide_eq_false h3
      have hx := hend (.inl (by omega))
      clear hend hR
      rw [hx] at hQ
      dsimp only at hQ
      conv => whnf
      refine Exists.intro [2, 3] ?_
      conv => whnf
      repeat (refine ⟨by (conv => whnf); exact ⟨rfl, rfl⟩, ?_⟩; conv => whnf)
      refine Eq.mp ?_ hQ
      kernel_rfl
    rename_i h3; have h3 : (i : Int) < v1 := of_decide_eq_true h3
    cases b with
    | true =>
      have hx := hend (.inr rfl)
      clear hend hR
      rw [hx] at hQ
      dsimp only at hQ
      conv => whnf
      refine Exists.intro [2, 3] ?_
      conv => whnf
      repeat (refine ⟨by (conv => whnf); exact ⟨rfl, rfl⟩, ?_⟩; conv => whnf)
      refine Eq.mp ?_ hQ
      kernel_rfl
    | false =>
      clear hend
      have hi1 : IntKind.i64.wrap ((i : Int) + 1) = ((i + 1 : Nat) : Int) := by rw [IntWalk.i64_in _ (by omega)]; omega
      obtain ⟨k, hk⟩ : ∃ k, v1.toNat - i = k + 1 := ⟨v1.toNat - i - 1, by omega⟩
      have hk2 : v1.toNat - (i + 1) = k := by omega
      rw [hk] at i3
      conv => whnf
      refine ⟨l, rfl, hl, ?_⟩
      rcases h21 : dNum l (a, false) with ⟨⟨a21, b21⟩, v21⟩
      conv => whnf
      have hit : dNum l (a, false) = ((a21, b21), v21) := by exact h21
      rw [dLoop_next _ _ _ _ _ hit] at i3
      refine ⟨fits_at (ys' := [inC v21]) (by kernel_rfl) (fits_one' (by kernel_rfl) (by kernel_rfl) (Nat.le_trans (Nat.le_of_eq hcl) (by omega))), ?_⟩
      conv => whnf
      refine R_at ?_ ?_ (hR (i + 1, (x :: xs) ++ [v21], a21, b21) ⟨by omega, by simp at i4 ⊢; omega, by simp at i4 ⊢; omega, by rw [hk2, i3]; simp⟩ (by dsimp only; omega))
      · rw [← hi1]; kernel_rfl
      · show _ = .var (inS l (a21, b21)) :: .var [.int .i64 m.kind, .int .i64 m.bal.view, .int .i64 m.bal.turn, .int .i64 m.slot, .int .i64 m.from_, .int .i64 m.to, .int .i64 m.index, .int .i64 m.count, .int .i64 m.req.client, .int .i64 m.req.stamp, .slice (bsA m.req.op), .slice (bsA m.req.sig), .int .i64 m.other.client, .int .i64 m.other.stamp, .slice (bsA m.other.op), .slice (bsA m.other.sig), .slice (bsA m.data), .slice (bsA m.sig), .slice (vtCL m.cert), .slice (vtCL m.votes), rowVn 2 (inCL ((x :: xs) ++ [v21])), .zslice, .zslice] :: (rowH1 3 1 (inCL ((x :: xs) ++ [v21])) ++ [.var [.zslice, .int .i64 0, .bool false], .var zC])
        rw [show inCL ((x :: xs) ++ [(v21 : Int)]) = inCL (x :: xs) ++ [inC v21] by simp [inCL]]
        kernel_rfl

set_option maxRecDepth 100000 in
set_option maxHeartbeats 16000000 in
theorem f116_ok13 (l : List Int) (a : Int) (b : Bool) (m : MsV) (hl : OkL l) (T : Tab) (Q : AOut → Prop) (hQ : Q (.ret (.tuple [.agg (inS l (dField l (a, b) m 13).1), .agg (msS 2 (dField l (a, b) m 13).2)]))) (N : Nat) (hN : 64 < N) :
    abody Tryd.prog (T116 T) 0 N Tryd.f116 [.agg (inS l (a, b)), .agg (msS 1 m), .int .i64 13] [] (fun out Hs => Q (frzON 22 Hs out)) := by
  conv => whnf
  refine ⟨l, rfl, hl, ?_⟩
  rcases h1 : dMany l (a, b) with ⟨⟨a1, b1⟩, v1⟩
  conv => whnf
  have hm : v1 ≤ 64 := by have := dMany_le l (a, b); rw [h1] at this; exact this
  simp only [dField, dList, h1] at hQ
  clear h1
  refine aloop_at ?_ ?_ (aloop_inv (σ := Nat × List RqV × Int × Bool) (fun s => ((sp 0 74 [(2, .int .i64 13), (3, .ptr 0 0), (4, .ptr 1 0), (6, pO 2 3 (rqCL s.2.1)), (7, pO 3 4 (rqCL s.2.1)), (8, .int .i64 v1), (9, .int .i64 (s.1 : Nat))]), .var (inS l s.2.2) :: .var [.int .i64 m.kind, .int .i64 m.bal.view, .int .i64 m.bal.turn, .int .i64 m.slot, .int .i64 m.from_, .int .i64 m.to, .int .i64 m.index, .int .i64 m.count, .int .i64 m.req.client, .int .i64 m.req.stamp, .slice (bsA m.req.op), .slice (bsA m.req.sig), .int .i64 m.other.client, .int .i64 m.other.stamp, .slice (bsA m.other.op), .slice (bsA m.other.sig), .slice (bsA m.data), .slice (bsA m.sig), .slice (vtCL m.cert), .slice (vtCL m.votes), .slice (inCL m.order), rowVn 2 (rqCL s.2.1), .zslice] :: (rowH1 28 4 (rqCL s.2.1) ++ [.var [.zslice, .int .i64 0, .bool false], .var zC])))
    (fun s => s.1 ≤ v1.toNat ∧ s.2.1.length ≤ 64 ∧ s.2.1.length = s.1 ∧ dLoop (dReq l) v1.toNat (a1, b1) = ((dLoop (dReq l) (v1.toNat - s.1) s.2.2).1, s.2.1 ++ (dLoop (dReq l) (v1.toNat - s.1) s.2.2).2)) (fun s => v1.toNat - s.1) ?_ N (0, [], (a1, b1)) ⟨Nat.zero_le _, Nat.zero_le _, rfl, rfl⟩ (by dsimp only; omega))
  · kernel_rfl
  · kernel_rfl
  clear hN
  rintro ⟨i, acc, a, b⟩ ⟨i1, i2, i4, i3⟩ R hR
  dsimp only at i1 i2 i3 i4
  have hcl : (rqCL acc).length = i := by simp [rqCL, i4]
  have hend : v1.toNat - i = 0 ∨ b = true → dLoop (dReq l) v1.toNat (a1, b1) = ((a, b), acc) := fun h => by
    rw [i3]
    rcases h with h | h
    · rw [h]; simp [dLoop]
    · subst h; simp [dLoop_stop]
  rcases acc with _ | ⟨x, xs⟩
  · conv => whnf
    split
    rotate_left
    · rename_i h3; have h3 : ¬ (i : Int) < v1 := of_decide_eq_false h3
      have hx := hend (.inl (by omega))
      clear hend hR
      rw [hx] at hQ
      dsimp only at hQ
      conv => whnf
      refine Exists.intro [2, 3] ?_
      conv => whnf
      repeat (refine ⟨by (conv => whnf); exact ⟨rfl, rfl⟩, ?_⟩; conv => whnf)
      refine Eq.mp ?_ hQ
      kernel_rfl
    rename_i h3; have h3 : (i : Int) < v1 := of_decide_eq_true h3
    cases b with
    | true =>
      have hx := hend (.inr rfl)
      clear hend hR
      rw [hx] at hQ
      dsimp only at hQ
      conv => whnf
      refine Exists.intro [2, 3] ?_
      conv => whnf
      repeat (refine ⟨by (conv => whnf); exact ⟨rfl, rfl⟩, ?_⟩; conv => whnf)
      refine Eq.mp ?_ hQ
      kernel_rfl
    | false =>
      clear hend
      have hi1 : IntKind.i64.wrap ((i : Int) + 1) = ((i + 1 : Nat) : Int) := by rw [IntWalk.i64_in _ (by omega)]; omega
      obtain ⟨k, hk⟩ : ∃ k, v1.toNat - i = k + 1 := ⟨v1.toNat - i - 1, by omega⟩
      have hk2 : v1.toNat - (i + 1) = k := by omega
      rw [hk] at i3
      conv => whnf
      refine ⟨l, rfl, hl, ?_⟩
      rcases h21 : dReq l (a, false) with ⟨⟨a21, b21⟩, v21⟩
      conv => whnf
      have hit : dReq l (a, false) = ((a21, b21), v21) := by exact h21
      rw [dLoop_next _ _ _ _ _ hit] at i3
      refine ⟨fits_at (ys' := [rqC v21]) (by kernel_rfl) (fits_one' (by kernel_rfl) (by kernel_rfl) (Nat.le_trans (Nat.le_of_eq hcl) (by omega))), ?_⟩
      conv => whnf
      refine R_at ?_ ?_ (hR (i + 1, [v21], a21, b21) ⟨by omega, (by decide : 1 ≤ 64), by simp at i4 ⊢; omega, by rw [hk2]; exact i3⟩ (by dsimp only; omega))
      · rw [← hi1]; kernel_rfl
      · kernel_rfl
  · conv => whnf
    split
    rotate_left
    · rename_i h3; have h3 : ¬ (i : Int) < v1 := of_decide_eq_false h3
      have hx := hend (.inl (by omega))
      clear hend hR
      rw [hx] at hQ
      dsimp only at hQ
      conv => whnf
      refine Exists.intro [2, 3] ?_
      conv => whnf
      repeat (refine ⟨by (conv => whnf); exact ⟨rfl, rfl⟩, ?_⟩; conv => whnf)
      refine Eq.mp ?_ hQ
      kernel_rfl
    rename_i h3; have h3 : (i : Int) < v1 := of_decide_eq_true h3
    cases b with
    | true =>
      have hx := hend (.inr rfl)
      clear hend hR
      rw [hx] at hQ
      dsimp only at hQ
      conv => whnf
      refine Exists.intro [2, 3] ?_
      conv => whnf
      repeat (refine ⟨by (conv => whnf); exact ⟨rfl, rfl⟩, ?_⟩; conv => whnf)
      refine Eq.mp ?_ hQ
      kernel_rfl
    | false =>
      clear hend
      have hi1 : IntKind.i64.wrap ((i : Int) + 1) = ((i + 1 : Nat) : Int) := by rw [IntWalk.i64_in _ (by omega)]; omega
      obtain ⟨k, hk⟩ : ∃ k, v1.toNat - i = k + 1 := ⟨v1.toNat - i - 1, by omega⟩
      have hk2 : v1.toNat - (i + 1) = k := by omega
      rw [hk] at i3
      conv => whnf
      refine ⟨l, rfl, hl, ?_⟩
      rcases h21 : dReq l (a, false) with ⟨⟨a21, b21⟩, v21⟩
      conv => whnf
      have hit : dReq l (a, false) = ((a21, b21), v21) := by exact h21
      rw [dLoop_next _ _ _ _ _ hit] at i3
      refine ⟨fits_at (ys' := [rqC v21]) (by kernel_rfl) (fits_one' (by kernel_rfl) (by kernel_rfl) (Nat.le_trans (Nat.le_of_eq hcl) (by omega))), ?_⟩
      conv => whnf
      refine R_at ?_ ?_ (hR (i + 1, (x :: xs) ++ [v21], a21, b21) ⟨by omega, by simp at i4 ⊢; omega, by simp at i4 ⊢; omega, by rw [hk2, i3]; simp⟩ (by dsimp only; omega))
      · rw [← hi1]; kernel_rfl
      · show _ = .var (inS l (a21, b21)) :: .var [.int .i64 m.kind, .int .i64 m.bal.view, .int .i64 m.bal.turn, .int .i64 m.slot, .int .i64 m.from_, .int .i64 m.to, .int .i64 m.index, .int .i64 m.count, .int .i64 m.req.client, .int .i64 m.req.stamp, .slice (bsA m.req.op), .slice (bsA m.req.sig), .int .i64 m.other.client, .int .i64 m.other.stamp, .slice (bsA m.other.op), .slice (bsA m.other.sig), .slice (bsA m.data), .slice (bsA m.sig), .slice (vtCL m.cert), .slice (vtCL m.votes), .slice (inCL m.order), rowVn 2 (rqCL ((x :: xs) ++ [v21])), .zslice] :: (rowH1 28 4 (rqCL ((x :: xs) ++ [v21])) ++ [.var [.zslice, .int .i64 0, .bool false], .var zC])
        rw [show rqCL ((x :: xs) ++ [(v21 : RqV)]) = rqCL (x :: xs) ++ [rqC v21] by simp [rqCL]]
        kernel_rfl

set_option maxRecDepth 100000 in
set_option maxHeartbeats 16000000 in
theorem f116_ok14 (l : List Int) (a : Int) (b : Bool) (m : MsV) (hl : OkL l) (T : Tab) (Q : AOut → Prop) (hQ : Q (.ret (.tuple [.agg (inS l (dField l (a, b) m 14).1), .agg (msS 3 (dField l (a, b) m 14).2)]))) (N : Nat) (hN : 64 < N) :
    abody Tryd.prog (T116 T) 0 N Tryd.f116 [.agg (inS l (a, b)), .agg (msS 2 m), .int .i64 14] [] (fun out Hs => Q (frzON 23 Hs out)) := by
  conv => whnf
  refine ⟨l, rfl, hl, ?_⟩
  rcases h1 : dMany l (a, b) with ⟨⟨a1, b1⟩, v1⟩
  conv => whnf
  have hm : v1 ≤ 64 := by have := dMany_le l (a, b); rw [h1] at this; exact this
  simp only [dField, dList, h1] at hQ
  clear h1
  refine aloop_at ?_ ?_ (aloop_inv (σ := Nat × List RpV × Int × Bool) (fun s => ((sp 0 74 [(2, .int .i64 14), (3, .ptr 0 0), (4, .ptr 1 0), (6, pO 2 3 (rpCL s.2.1)), (7, pO 3 4 (rpCL s.2.1)), (8, .int .i64 v1), (9, .int .i64 (s.1 : Nat))]), .var (inS l s.2.2) :: .var [.int .i64 m.kind, .int .i64 m.bal.view, .int .i64 m.bal.turn, .int .i64 m.slot, .int .i64 m.from_, .int .i64 m.to, .int .i64 m.index, .int .i64 m.count, .int .i64 m.req.client, .int .i64 m.req.stamp, .slice (bsA m.req.op), .slice (bsA m.req.sig), .int .i64 m.other.client, .int .i64 m.other.stamp, .slice (bsA m.other.op), .slice (bsA m.other.sig), .slice (bsA m.data), .slice (bsA m.sig), .slice (vtCL m.cert), .slice (vtCL m.votes), .slice (inCL m.order), .slice (rqCL m.picks), rowVn 2 (rpCL s.2.1)] :: (rowH1 70 8 (rpCL s.2.1) ++ [.var [.zslice, .int .i64 0, .bool false], .var zC])))
    (fun s => s.1 ≤ v1.toNat ∧ s.2.1.length ≤ 64 ∧ s.2.1.length = s.1 ∧ dLoop (dReport l) v1.toNat (a1, b1) = ((dLoop (dReport l) (v1.toNat - s.1) s.2.2).1, s.2.1 ++ (dLoop (dReport l) (v1.toNat - s.1) s.2.2).2)) (fun s => v1.toNat - s.1) ?_ N (0, [], (a1, b1)) ⟨Nat.zero_le _, Nat.zero_le _, rfl, rfl⟩ (by dsimp only; omega))
  · kernel_rfl
  · kernel_rfl
  clear hN
  rintro ⟨i, acc, a, b⟩ ⟨i1, i2, i4, i3⟩ R hR
  dsimp only at i1 i2 i3 i4
  have hcl : (rpCL acc).length = i := by simp [rpCL, i4]
  have hend : v1.toNat - i = 0 ∨ b = true → dLoop (dReport l) v1.toNat (a1, b1) = ((a, b), acc) := fun h => by
    rw [i3]
    rcases h with h | h
    · rw [h]; simp [dLoop]
    · subst h; simp [dLoop_stop]
  rcases acc with _ | ⟨x, xs⟩
  · conv => whnf
    split
    rotate_left
    · rename_i h3; have h3 : ¬ (i : Int) < v1 := of_decide_eq_false h3
      have hx := hend (.inl (by omega))
      clear hend hR
      rw [hx] at hQ
      dsimp only at hQ
      conv => whnf
      refine Exists.intro [2, 3] ?_
      conv => whnf
      repeat (refine ⟨by (conv => whnf); exact ⟨rfl, rfl⟩, ?_⟩; conv => whnf)
      refine Eq.mp ?_ hQ
      kernel_rfl
    rename_i h3; have h3 : (i : Int) < v1 := of_decide_eq_true h3
    cases b with
    | true =>
      have hx := hend (.inr rfl)
      clear hend hR
      rw [hx] at hQ
      dsimp only at hQ
      conv => whnf
      refine Exists.intro [2, 3] ?_
      conv => whnf
      repeat (refine ⟨by (conv => whnf); exact ⟨rfl, rfl⟩, ?_⟩; conv => whnf)
      refine Eq.mp ?_ hQ
      kernel_rfl
    | false =>
      clear hend
      have hi1 : IntKind.i64.wrap ((i : Int) + 1) = ((i + 1 : Nat) : Int) := by rw [IntWalk.i64_in _ (by omega)]; omega
      obtain ⟨k, hk⟩ : ∃ k, v1.toNat - i = k + 1 := ⟨v1.toNat - i - 1, by omega⟩
      have hk2 : v1.toNat - (i + 1) = k := by omega
      rw [hk] at i3
      conv => whnf
      refine ⟨l, rfl, hl, ?_⟩
      rcases h21 : dReport l (a, false) with ⟨⟨a21, b21⟩, v21⟩
      conv => whnf
      have hit : dReport l (a, false) = ((a21, b21), v21) := by exact h21
      rw [dLoop_next _ _ _ _ _ hit] at i3
      refine ⟨fits_at (ys' := [rpC v21]) (by kernel_rfl) (fits_one' (by kernel_rfl) (by kernel_rfl) (Nat.le_trans (Nat.le_of_eq hcl) (by omega))), ?_⟩
      conv => whnf
      refine R_at ?_ ?_ (hR (i + 1, [v21], a21, b21) ⟨by omega, (by decide : 1 ≤ 64), by simp at i4 ⊢; omega, by rw [hk2]; exact i3⟩ (by dsimp only; omega))
      · rw [← hi1]; kernel_rfl
      · kernel_rfl
  · conv => whnf
    split
    rotate_left
    · rename_i h3; have h3 : ¬ (i : Int) < v1 := of_decide_eq_false h3
      have hx := hend (.inl (by omega))
      clear hend hR
      rw [hx] at hQ
      dsimp only at hQ
      conv => whnf
      refine Exists.intro [2, 3] ?_
      conv => whnf
      repeat (refine ⟨by (conv => whnf); exact ⟨rfl, rfl⟩, ?_⟩; conv => whnf)
      refine Eq.mp ?_ hQ
      kernel_rfl
    rename_i h3; have h3 : (i : Int) < v1 := of_decide_eq_true h3
    cases b with
    | true =>
      have hx := hend (.inr rfl)
      clear hend hR
      rw [hx] at hQ
      dsimp only at hQ
      conv => whnf
      refine Exists.intro [2, 3] ?_
      conv => whnf
      repeat (refine ⟨by (conv => whnf); exact ⟨rfl, rfl⟩, ?_⟩; conv => whnf)
      refine Eq.mp ?_ hQ
      kernel_rfl
    | false =>
      clear hend
      have hi1 : IntKind.i64.wrap ((i : Int) + 1) = ((i + 1 : Nat) : Int) := by rw [IntWalk.i64_in _ (by omega)]; omega
      obtain ⟨k, hk⟩ : ∃ k, v1.toNat - i = k + 1 := ⟨v1.toNat - i - 1, by omega⟩
      have hk2 : v1.toNat - (i + 1) = k := by omega
      rw [hk] at i3
      conv => whnf
      refine ⟨l, rfl, hl, ?_⟩
      rcases h21 : dReport l (a, false) with ⟨⟨a21, b21⟩, v21⟩
      conv => whnf
      have hit : dReport l (a, false) = ((a21, b21), v21) := by exact h21
      rw [dLoop_next _ _ _ _ _ hit] at i3
      refine ⟨fits_at (ys' := [rpC v21]) (by kernel_rfl) (fits_one' (by kernel_rfl) (by kernel_rfl) (Nat.le_trans (Nat.le_of_eq hcl) (by omega))), ?_⟩
      conv => whnf
      refine R_at ?_ ?_ (hR (i + 1, (x :: xs) ++ [v21], a21, b21) ⟨by omega, by simp at i4 ⊢; omega, by simp at i4 ⊢; omega, by rw [hk2, i3]; simp⟩ (by dsimp only; omega))
      · rw [← hi1]; kernel_rfl
      · show _ = .var (inS l (a21, b21)) :: .var [.int .i64 m.kind, .int .i64 m.bal.view, .int .i64 m.bal.turn, .int .i64 m.slot, .int .i64 m.from_, .int .i64 m.to, .int .i64 m.index, .int .i64 m.count, .int .i64 m.req.client, .int .i64 m.req.stamp, .slice (bsA m.req.op), .slice (bsA m.req.sig), .int .i64 m.other.client, .int .i64 m.other.stamp, .slice (bsA m.other.op), .slice (bsA m.other.sig), .slice (bsA m.data), .slice (bsA m.sig), .slice (vtCL m.cert), .slice (vtCL m.votes), .slice (inCL m.order), .slice (rqCL m.picks), rowVn 2 (rpCL ((x :: xs) ++ [v21]))] :: (rowH1 70 8 (rpCL ((x :: xs) ++ [v21])) ++ [.var [.zslice, .int .i64 0, .bool false], .var zC])
        rw [show rpCL ((x :: xs) ++ [(v21 : RpV)]) = rpCL (x :: xs) ++ [rpC v21] by simp [rpCL]]
        kernel_rfl

set_option maxRecDepth 100000 in
theorem s116 {T : Tab} (hT : TGood Tryd.prog T) : SGood Tryd.prog 116 (fieldDT 12) := fieldDT_good fun l s m i Q hl h1 h2 _ hQ => by
  obtain ⟨a, b⟩ := s
  have hi : i = 12 ∨ i = 13 ∨ i = 14 := by omega
  rcases hi with rfl | rfl | rfl
  · exact body_zT 21 (T116_good hT) mixedT Tryd.func116 (entersOf Tryd.func116 (by kernel_rfl) rfl) 65 (f116_ok12 l a b m hl T Q hQ 65 (by omega))
  · exact body_zT 22 (T116_good hT) mixedT Tryd.func116 (entersOf Tryd.func116 (by kernel_rfl) rfl) 65 (f116_ok13 l a b m hl T Q hQ 65 (by omega))
  · exact body_zT 23 (T116_good hT) mixedT Tryd.func116 (entersOf Tryd.func116 (by kernel_rfl) rfl) 65 (f116_ok14 l a b m hl T Q hQ 65 (by omega))

end Go.Abs

/-
catenaryref05.getField is what it comes to.
-/
namespace Go.Abs
open Go Go.Proofs

theorem msS_unz {i : Nat} (hi : i < 15) {m : MsV} (h : okTail i m) : (msS (preS i) m).map unz = msC m := by
  obtain ⟨h1, h2, h3⟩ := h
  have e : ∀ j, 12 ≤ j → j < 15 → (j ≤ 12 → m.order = []) → (j ≤ 13 → m.picks = []) → (msS (preS j) m).map unz = msC m := fun j g1 g2 g3 g4 => by
    have hj : j = 12 ∨ j = 13 ∨ j = 14 := by omega
    rcases hj with rfl | rfl | rfl
    · have a1 := g3 (by omega)
      have a2 := g4 (by omega)
      simp only [msC, a1, a2, h3]
      rfl
    · have a2 := g4 (by omega)
      simp only [msC, a2, h3]
      rfl
    · simp only [msC, h3]
      rfl
  by_cases h12 : 12 ≤ i
  · exact e i h12 hi h1 h2
  · have : preS i = preS 12 := by unfold preS; omega
    rw [this]
    exact e 12 (by omega) (by omega) (fun _ => h1 (by omega)) (fun _ => h2 (by omega))

def T62 (T : Tab) : Tab := ext (ext (ext (ext (ext T 61 (pureT g61)) 114 (pureT g114)) 113 (pureT g113)) 115 (pureT g115)) 116 (fieldDT 12)
theorem T62_good {T : Tab} (hT : TGood Tryd.prog T) : TGood Tryd.prog (T62 T) := by
  have t0 := ext_good hT (s61 hT)
  have t1 := ext_good t0 (s114 t0)
  have t2 := ext_good t1 (s113 t1)
  have t3 := ext_good t2 (s115 t2)
  exact ext_good t3 (s116 t3)

set_option maxRecDepth 100000 in
set_option maxHeartbeats 16000000 in
theorem f62_ok0 (l : List Int) (a : Int) (b : Bool) (m : MsV) (hl : OkL l) (T : Tab) (Q : AOut → Prop) (hQ : Q (.ret (.tuple [.agg (inS l (dField l (a, b) m 0).1), .agg (msS 0 (dField l (a, b) m 0).2)]))) (N : Nat) :
    abody Tryd.prog (T62 T) 0 N Tryd.f62 [.agg (inS l (a, b)), .agg (msS 0 m), .int .i64 0] [] (fun out Hs => Q (frzON 20 Hs out)) := by
  conv => whnf
  refine ⟨l, rfl, hl, ?_⟩
  rcases h1 : dNum l (a, b) with ⟨⟨a1, b1⟩, v1⟩
  conv => whnf
  refine ⟨l, rfl, hl, ?_⟩
  rcases h2 : dNum l (a1, b1) with ⟨⟨a2, b2⟩, v2⟩
  conv => whnf
  simp only [dField, h1, h2] at hQ
  refine Exists.intro [2, 3] ?_
  conv => whnf
  repeat (refine ⟨by (conv => whnf); exact ⟨rfl, rfl⟩, ?_⟩; conv => whnf)
  refine Eq.mp ?_ hQ
  kernel_rfl

set_option maxRecDepth 100000 in
set_option maxHeartbeats 16000000 in
theorem f62_ok1 (l : List Int) (a : Int) (b : Bool) (m : MsV) (hl : OkL l) (T : Tab) (Q : AOut → Prop) (hQ : Q (.ret (.tuple [.agg (inS l (dField l (a, b) m 1).1), .agg (msS 0 (dField l (a, b) m 1).2)]))) (N : Nat) :
    abody Tryd.prog (T62 T) 0 N Tryd.f62 [.agg (inS l (a, b)), .agg (msS 0 m), .int .i64 1] [] (fun out Hs => Q (frzON 20 Hs out)) := by
  conv => whnf
  refine ⟨l, rfl, hl, ?_⟩
  rcases h1 : dNum l (a, b) with ⟨⟨a1, b1⟩, v1⟩
  conv => whnf
  simp only [dField, h1] at hQ
  refine Exists.intro [2, 3] ?_
  conv => whnf
  repeat (refine ⟨by (conv => whnf); exact ⟨rfl, rfl⟩, ?_⟩; conv => whnf)
  refine Eq.mp ?_ hQ
  kernel_rfl

set_option maxRecDepth 100000 in
set_option maxHeartbeats 16000000 in
theorem f62_ok2 (l : List Int) (a : Int) (b : Bool) (m : MsV) (hl : OkL l) (T : Tab) (Q : AOut → Prop) (hQ : Q (.ret (.tuple [.agg (inS l (dField l (a, b) m 2).1), .agg (msS 0 (dField l (a, b) m 2).2)]))) (N : Nat) :
    abody Tryd.prog (T62 T) 0 N Tryd.f62 [.agg (inS l (a, b)), .agg (msS 0 m), .int .i64 2] [] (fun out Hs => Q (frzON 20 Hs out)) := by
  conv => whnf
  refine ⟨l, rfl, hl, ?_⟩
  rcases h1 : dNum l (a, b) with ⟨⟨a1, b1⟩, v1⟩
  conv => whnf
  simp only [dField, h1] at hQ
  refine Exists.intro [2, 3] ?_
  conv => whnf
  repeat (refine ⟨by (conv => whnf); exact ⟨rfl, rfl⟩, ?_⟩; conv => whnf)
  refine Eq.mp ?_ hQ
  kernel_rfl

set_option maxRecDepth 100000 in
set_option maxHeartbeats 16000000 in
theorem f62_ok3 (l : List Int) (a : Int) (b : Bool) (m : MsV) (hl : OkL l) (T : Tab) (Q : AOut → Prop) (hQ : Q (.ret (.tuple [.agg (inS l (dField l (a, b) m 3).1), .agg (msS 0 (dField l (a, b) m 3).2)]))) (N : Nat) :
    abody Tryd.prog (T62 T) 0 N Tryd.f62 [.agg (inS l (a, b)), .agg (msS 0 m), .int .i64 3] [] (fun out Hs => Q (frzON 20 Hs out)) := by
  conv => whnf
  refine ⟨l, rfl, hl, ?_⟩
  rcases h1 : dNum l (a, b) with ⟨⟨a1, b1⟩, v1⟩
  conv => whnf
  simp only [dField, h1] at hQ
  refine Exists.intro [2, 3] ?_
  conv => whnf
  repeat (refine ⟨by (conv => whnf); exact ⟨rfl, rfl⟩, ?_⟩; conv => whnf)
  refine Eq.mp ?_ hQ
  kernel_rfl

set_option maxRecDepth 100000 in
set_option maxHeartbeats 16000000 in
theorem f62_ok4 (l : List Int) (a : Int) (b : Bool) (m : MsV) (hl : OkL l) (T : Tab) (Q : AOut → Prop) (hQ : Q (.ret (.tuple [.agg (inS l (dField l (a, b) m 4).1), .agg (msS 0 (dField l (a, b) m 4).2)]))) (N : Nat) :
    abody Tryd.prog (T62 T) 0 N Tryd.f62 [.agg (inS l (a, b)), .agg (msS 0 m), .int .i64 4] [] (fun out Hs => Q (frzON 20 Hs out)) := by
  conv => whnf
  refine ⟨l, rfl, hl, ?_⟩
  rcases h1 : dNum l (a, b) with ⟨⟨a1, b1⟩, v1⟩
  conv => whnf
  simp only [dField, h1] at hQ
  refine Exists.intro [2, 3] ?_
  conv => whnf
  repeat (refine ⟨by (conv => whnf); exact ⟨rfl, rfl⟩, ?_⟩; conv => whnf)
  refine Eq.mp ?_ hQ
  kernel_rfl

set_option maxRecDepth 100000 in
set_option maxHeartbeats 16000000 in
theorem f62_ok5 (l : List Int) (a : Int) (b : Bool) (m : MsV) (hl : OkL l) (T : Tab) (Q : AOut → Prop) (hQ : Q (.ret (.tuple [.agg (inS l (dField l (a, b) m 5).1), .agg (msS 0 (dField l (a, b) m 5).2)]))) (N : Nat) :
    abody Tryd.prog (T62 T) 0 N Tryd.f62 [.agg (inS l (a, b)), .agg (msS 0 m), .int .i64 5] [] (fun out Hs => Q (frzON 20 Hs out)) := by
  conv => whnf
  refine ⟨l, rfl, hl, ?_⟩
  rcases h1 : dNum l (a, b) with ⟨⟨a1, b1⟩, v1⟩
  conv => whnf
  simp only [dField, h1] at hQ
  refine Exists.intro [2, 3] ?_
  conv => whnf
  repeat (refine ⟨by (conv => whnf); exact ⟨rfl, rfl⟩, ?_⟩; conv => whnf)
  refine Eq.mp ?_ hQ
  kernel_rfl

set_option maxRecDepth 100000 in
set_option maxHeartbeats 16000000 in
theorem f62_ok6 (l : List Int) (a : Int) (b : Bool) (m : MsV) (hl : OkL l) (T : Tab) (Q : AOut → Prop) (hQ : Q (.ret (.tuple [.agg (inS l (dField l (a, b) m 6).1), .agg (msS 0 (dField l (a, b) m 6).2)]))) (N : Nat) :
    abody Tryd.prog (T62 T) 0 N Tryd.f62 [.agg (inS l (a, b)), .agg (msS 0 m), .int .i64 6] [] (fun out Hs => Q (frzON 20 Hs out)) := by
  conv => whnf
  refine ⟨l, rfl, hl, ?_⟩
  rcases h1 : dReq l (a, b) with ⟨⟨a1, b1⟩, v1⟩
  conv => whnf
  simp only [dField, h1] at hQ
  refine Exists.intro [2, 3] ?_
  conv => whnf
  repeat (refine ⟨by (conv => whnf); exact ⟨rfl, rfl⟩, ?_⟩; conv => whnf)
  refine Eq.mp ?_ hQ
  kernel_rfl

set_option maxRecDepth 100000 in
set_option maxHeartbeats 16000000 in
theorem f62_ok7 (l : List Int) (a : Int) (b : Bool) (m : MsV) (hl : OkL l) (T : Tab) (Q : AOut → Prop) (hQ : Q (.ret (.tuple [.agg (inS l (dField l (a, b) m 7).1), .agg (msS 0 (dField l (a, b) m 7).2)]))) (N : Nat) :
    abody Tryd.prog (T62 T) 0 N Tryd.f62 [.agg (inS l (a, b)), .agg (msS 0 m), .int .i64 7] [] (fun out Hs => Q (frzON 20 Hs out)) := by
  conv => whnf
  refine ⟨l, rfl, hl, ?_⟩
  rcases h1 : dReq l (a, b) with ⟨⟨a1, b1⟩, v1⟩
  conv => whnf
  simp only [dField, h1] at hQ
  refine Exists.intro [2, 3] ?_
  conv => whnf
  repeat (refine ⟨by (conv => whnf); exact ⟨rfl, rfl⟩, ?_⟩; conv => whnf)
  refine Eq.mp ?_ hQ
  kernel_rfl

set_option maxRecDepth 100000 in
set_option maxHeartbeats 16000000 in
theorem f62_ok8 (l : List Int) (a : Int) (b : Bool) (m : MsV) (hl : OkL l) (T : Tab) (Q : AOut → Prop) (hQ : Q (.ret (.tuple [.agg (inS l (dField l (a, b) m 8).1), .agg (msS 0 (dField l (a, b) m 8).2)]))) (N : Nat) :
    abody Tryd.prog (T62 T) 0 N Tryd.f62 [.agg (inS l (a, b)), .agg (msS 0 m), .int .i64 8] [] (fun out Hs => Q (frzON 20 Hs out)) := by
  conv => whnf
  refine ⟨l, rfl, hl, ?_⟩
  rcases h1 : dText l (a, b) with ⟨⟨a1, b1⟩, v1⟩
  conv => whnf
  simp only [dField, h1] at hQ
  refine Exists.intro [2, 3] ?_
  conv => whnf
  repeat (refine ⟨by (conv => whnf); exact ⟨rfl, rfl⟩, ?_⟩; conv => whnf)
  refine Eq.mp ?_ hQ
  kernel_rfl

set_option maxRecDepth 100000 in
set_option maxHeartbeats 16000000 in
theorem f62_ok9 (l : List Int) (a : Int) (b : Bool) (m : MsV) (hl : OkL l) (T : Tab) (Q : AOut → Prop) (hQ : Q (.ret (.tuple [.agg (inS l (dField l (a, b) m 9).1), .agg (msS 0 (dField l (a, b) m 9).2)]))) (N : Nat) :
    abody Tryd.prog (T62 T) 0 N Tryd.f62 [.agg (inS l (a, b)), .agg (msS 0 m), .int .i64 9] [] (fun out Hs => Q (frzON 20 Hs out)) := by
  conv => whnf
  refine ⟨l, rfl, hl, ?_⟩
  rcases h1 : dText l (a, b) with ⟨⟨a1, b1⟩, v1⟩
  conv => whnf
  simp only [dField, h1] at hQ
  refine Exists.intro [2, 3] ?_
  conv => whnf
  repeat (refine ⟨by (conv => whnf); exact ⟨rfl, rfl⟩, ?_⟩; conv => whnf)
  refine Eq.mp ?_ hQ
  kernel_rfl

set_option maxRecDepth 100000 in
set_option maxHeartbeats 16000000 in
theorem f62_ok10 (l : List Int) (a : Int) (b : Bool) (m : MsV) (hl : OkL l) (T : Tab) (Q : AOut → Prop) (hQ : Q (.ret (.tuple [.agg (inS l (dField l (a, b) m 10).1), .agg (msS 0 (dField l (a, b) m 10).2)]))) (N : Nat) :
    abody Tryd.prog (T62 T) 0 N Tryd.f62 [.agg (inS l (a, b)), .agg (msS 0 m), .int .i64 10] [] (fun out Hs => Q (frzON 20 Hs out)) := by
  conv => whnf
  refine ⟨l, rfl, hl, ?_⟩
  rcases h1 : dVotes l (a, b) with ⟨⟨a1, b1⟩, v1⟩
  conv => whnf
  simp only [dField, h1] at hQ
  refine Exists.intro [2, 3] ?_
  conv => whnf
  repeat (refine ⟨by (conv => whnf); exact ⟨rfl, rfl⟩, ?_⟩; conv => whnf)
  refine Eq.mp ?_ hQ
  kernel_rfl

set_option maxRecDepth 100000 in
set_option maxHeartbeats 16000000 in
theorem f62_ok11 (l : List Int) (a : Int) (b : Bool) (m : MsV) (hl : OkL l) (T : Tab) (Q : AOut → Prop) (hQ : Q (.ret (.tuple [.agg (inS l (dField l (a, b) m 11).1), .agg (msS 0 (dField l (a, b) m 11).2)]))) (N : Nat) :
    abody Tryd.prog (T62 T) 0 N Tryd.f62 [.agg (inS l (a, b)), .agg (msS 0 m), .int .i64 11] [] (fun out Hs => Q (frzON 20 Hs out)) := by
  conv => whnf
  refine ⟨l, rfl, hl, ?_⟩
  rcases h1 : dVotes l (a, b) with ⟨⟨a1, b1⟩, v1⟩
  conv => whnf
  simp only [dField, h1] at hQ
  refine Exists.intro [2, 3] ?_
  conv => whnf
  repeat (refine ⟨by (conv => whnf); exact ⟨rfl, rfl⟩, ?_⟩; conv => whnf)
  refine Eq.mp ?_ hQ
  kernel_rfl

set_option maxRecDepth 100000 in
set_option maxHeartbeats 16000000 in
theorem f62_ok12 (l : List Int) (a : Int) (b : Bool) (m : MsV) (hl : OkL l) (hz : okTail 12 m) (T : Tab) (Q : AOut → Prop) (hQ : Q (.ret (.tuple [.agg (inS l (dField l (a, b) m 12).1), .agg (msS 1 (dField l (a, b) m 12).2)]))) (N : Nat) :
    abody Tryd.prog (T62 T) 0 N Tryd.f62 [.agg (inS l (a, b)), .agg (msS 0 m), .int .i64 12] [] (fun out Hs => Q (frzON 21 Hs out)) := by
  have hu := msS_unz (by decide : 12 < 15) hz
  conv => whnf
  refine ⟨l, m, 12, rfl, hu, ⟨fun _ => rfl, fun _ => rfl, rfl⟩, hl, by decide, by decide, rfl, ?_⟩
  generalize dField l (a, b) m 12 = r at hQ ⊢
  conv => whnf
  refine Eq.mp ?_ hQ
  kernel_rfl

set_option maxRecDepth 100000 in
set_option maxHeartbeats 16000000 in
theorem f62_ok13 (l : List Int) (a : Int) (b : Bool) (m : MsV) (hl : OkL l) (hz : okTail 13 m) (T : Tab) (Q : AOut → Prop) (hQ : Q (.ret (.tuple [.agg (inS l (dField l (a, b) m 13).1), .agg (msS 2 (dField l (a, b) m 13).2)]))) (N : Nat) :
    abody Tryd.prog (T62 T) 0 N Tryd.f62 [.agg (inS l (a, b)), .agg (msS 1 m), .int .i64 13] [] (fun out Hs => Q (frzON 22 Hs out)) := by
  have hu := msS_unz (by decide : 13 < 15) hz
  conv => whnf
  refine ⟨l, m, 13, rfl, hu, ⟨fun h => absurd h (by decide), fun _ => rfl, rfl⟩, hl, by decide, by decide, rfl, ?_⟩
  generalize dField l (a, b) m 13 = r at hQ ⊢
  conv => whnf
  refine Eq.mp ?_ hQ
  kernel_rfl

set_option maxRecDepth 100000 in
set_option maxHeartbeats 16000000 in
theorem f62_ok14 (l : List Int) (a : Int) (b : Bool) (m : MsV) (hl : OkL l) (hz : okTail 14 m) (T : Tab) (Q : AOut → Prop) (hQ : Q (.ret (.tuple [.agg (inS l (dField l (a, b) m 14).1), .agg (msS 3 (dField l (a, b) m 14).2)]))) (N : Nat) :
    abody Tryd.prog (T62 T) 0 N Tryd.f62 [.agg (inS l (a, b)), .agg (msS 2 m), .int .i64 14] [] (fun out Hs => Q (frzON 23 Hs out)) := by
  have hu := msS_unz (by decide : 14 < 15) hz
  conv => whnf
  refine ⟨l, m, 14, rfl, hu, ⟨fun h => absurd h (by decide), fun h => absurd h (by decide), rfl⟩, hl, by decide, by decide, rfl, ?_⟩
  generalize dField l (a, b) m 14 = r at hQ ⊢
  conv => whnf
  refine Eq.mp ?_ hQ
  kernel_rfl

set_option maxRecDepth 100000 in
theorem s62 {T : Tab} (hT : TGood Tryd.prog T) : SGood Tryd.prog 62 (fieldDT 0) := fieldDT_good fun l s m i Q hl _ h2 hz hQ => by
  obtain ⟨a, b⟩ := s
  match i, h2 with
  | 0, _ => exact body_zT 20 (T62_good hT) mixedT Tryd.func62 (entersOf Tryd.func62 (by kernel_rfl) rfl) 0 (f62_ok0 l a b m hl T Q hQ 0)
  | 1, _ => exact body_zT 20 (T62_good hT) mixedT Tryd.func62 (entersOf Tryd.func62 (by kernel_rfl) rfl) 0 (f62_ok1 l a b m hl T Q hQ 0)
  | 2, _ => exact body_zT 20 (T62_good hT) mixedT Tryd.func62 (entersOf Tryd.func62 (by kernel_rfl) rfl) 0 (f62_ok2 l a b m hl T Q hQ 0)
  | 3, _ => exact body_zT 20 (T62_good hT) mixedT Tryd.func62 (entersOf Tryd.func62 (by kernel_rfl) rfl) 0 (f62_ok3 l a b m hl T Q hQ 0)
  | 4, _ => exact body_zT 20 (T62_good hT) mixedT Tryd.func62 (entersOf Tryd.func62 (by kernel_rfl) rfl) 0 (f62_ok4 l a b m hl T Q hQ 0)
  | 5, _ => exact body_zT 20 (T62_good hT) mixedT Tryd.func62 (entersOf Tryd.func62 (by kernel_rfl) rfl) 0 (f62_ok5 l a b m hl T Q hQ 0)
  | 6, _ => exact body_zT 20 (T62_good hT) mixedT Tryd.func62 (entersOf Tryd.func62 (by kernel_rfl) rfl) 0 (f62_ok6 l a b m hl T Q hQ 0)
  | 7, _ => exact body_zT 20 (T62_good hT) mixedT Tryd.func62 (entersOf Tryd.func62 (by kernel_rfl) rfl) 0 (f62_ok7 l a b m hl T Q hQ 0)
  | 8, _ => exact body_zT 20 (T62_good hT) mixedT Tryd.func62 (entersOf Tryd.func62 (by kernel_rfl) rfl) 0 (f62_ok8 l a b m hl T Q hQ 0)
  | 9, _ => exact body_zT 20 (T62_good hT) mixedT Tryd.func62 (entersOf Tryd.func62 (by kernel_rfl) rfl) 0 (f62_ok9 l a b m hl T Q hQ 0)
  | 10, _ => exact body_zT 20 (T62_good hT) mixedT Tryd.func62 (entersOf Tryd.func62 (by kernel_rfl) rfl) 0 (f62_ok10 l a b m hl T Q hQ 0)
  | 11, _ => exact body_zT 20 (T62_good hT) mixedT Tryd.func62 (entersOf Tryd.func62 (by kernel_rfl) rfl) 0 (f62_ok11 l a b m hl T Q hQ 0)
  | 12, _ => exact body_zT 21 (T62_good hT) mixedT Tryd.func62 (entersOf Tryd.func62 (by kernel_rfl) rfl) 0 (f62_ok12 l a b m hl hz T Q hQ 0)
  | 13, _ => exact body_zT 22 (T62_good hT) mixedT Tryd.func62 (entersOf Tryd.func62 (by kernel_rfl) rfl) 0 (f62_ok13 l a b m hl hz T Q hQ 0)
  | 14, _ => exact body_zT 23 (T62_good hT) mixedT Tryd.func62 (entersOf Tryd.func62 (by kernel_rfl) rfl) 0 (f62_ok14 l a b m hl hz T Q hQ 0)
  | i + 15, h2 => omega

end Go.Abs

/-
catenaryref05.Decode is what it comes to.
-/
namespace Go.Abs
open Go Go.Proofs

def dLoopF (l : List Int) (k : Int) : Nat → Nat → DS × MsV → DS × MsV
  | 0, _, x => x
  | n + 1, i, x => dLoopF l k n (i + 1) (cond (hasF k i) (dField l x.1 x.2 i) x)
def decD (l : List Int) : MsV × Int :=
  if (l.length : Int) > 1048576 then (zM, 53) else
  let r := dNum l (0, false)
  cond (r.1.2 || !knownB r.2) (zM, 51)
    (let t := dLoopF l r.2 15 0 (r.1, { zM with kind := r.2 })
    cond (t.1.2 || (t.1.1 != (l.length : Int))) (zM, 51) (t.2, 0))

theorem dField_tail (l : List Int) (s : DS) (m : MsV) : ∀ i, i < 14 → okTail i m → okTail (i + 1) (dField l s m i).2
  | 0, _, h | 1, _, h | 2, _, h | 3, _, h | 4, _, h | 5, _, h | 6, _, h | 7, _, h | 8, _, h | 9, _, h | 10, _, h | 11, _, h => ⟨fun _ => h.1 (by decide), fun _ => h.2.1 (by decide), h.2.2⟩
  | 12, _, h => ⟨fun g => absurd g (by decide), fun _ => h.2.1 (by decide), h.2.2⟩
  | 13, _, h => ⟨fun g => absurd g (by decide), fun g => absurd g (by decide), h.2.2⟩
  | i + 14, hi, _ => by omega
theorem next_unz (l : List Int) (s : DS) {m : MsV} {i : Nat} (hi : i < 15) (h : okTail i m) : (msS (stg i) (dField l s m i).2).map unz = msC (dField l s m i).2 := by
  by_cases h14 : i = 14
  · subst h14; exact msC_unz _
  · have := msS_unz (by omega) (dField_tail l s m i (by omega) h)
    have e : preS (i + 1) = stg i := by unfold preS stg; omega
    rwa [e] at this
theorem next_tail (m : MsV) : ∀ i, i < 14 → tailZ (i + 1) (msS (stg i) m)
  | 0, _ | 1, _ | 2, _ | 3, _ | 4, _ | 5, _ | 6, _ | 7, _ | 8, _ | 9, _ | 10, _ | 11, _ => ⟨fun _ => rfl, fun _ => rfl, rfl⟩
  | 12, _ => ⟨fun g => absurd g (by decide), fun _ => rfl, rfl⟩
  | 13, _ => ⟨fun g => absurd g (by decide), fun g => absurd g (by decide), rfl⟩
  | i + 14, hi => by omega
theorem tailZ_succ {i : Nat} {cs : List AV} (h : tailZ i cs) : tailZ (i + 1) cs := ⟨fun g => h.1 (by omega), fun g => h.2.1 (by omega), h.2.2⟩

/-- The message's cells: fresh, or behind a read. -/
def cellsF (k : Int) : Nat → MsV → List AV
  | 0, _ => zCk k
  | f + 1, m => msS f m

def g21 : GSpec := fun args K => match args with
  | [.slice es] => ∃ l : List Int, es = bsA l ∧ OkL l ∧ K (.ret (.tuple [.agg (msC (decD l).1), .int .i64 (decD l).2]))
  | _ => False
theorem g21_det (args : List AV) : Det (g21 args) := by
  unfold g21
  repeat' (first | exact Det.no | exact Det.at _ | refine Det.and ?_ | refine Det.ex fun _ => ?_ | refine Det.cond ?_ ?_ | split)

def T21 (T : Tab) : Tab := ext (ext (ext (ext T 61 (pureT g61)) 52 (flatT g52)) 53 (flatT g53)) 62 (fieldDT 0)
theorem T21_good {T : Tab} (hT : TGood Tryd.prog T) : TGood Tryd.prog (T21 T) := by
  have t0 := ext_good hT (s61 hT)
  have t1 := ext_good t0 (s52 t0)
  have t2 := ext_good t1 (s53 t1)
  exact ext_good t2 (s62 t2)

set_option maxRecDepth 100000 in
set_option maxHeartbeats 16000000 in
theorem f21_ok (l : List Int) (hl : OkL l) (T : Tab) (Q : AOut → Prop) (hQ : Q (.ret (.tuple [.agg (msC (decD l).1), .int .i64 (decD l).2]))) (N : Nat) (hN : 15 < N) :
    abody Tryd.prog (T21 T) 0 N Tryd.f21 [.slice (bsA l)] [] (fun out Hs => Q (frzO Hs out)) := by
  have hlen : ((bsA l).length : Int) = (l.length : Int) := by rw [bsA_length]
  unfold decD at hQ
  conv => whnf
  split
  · rename_i h
    have h : ((bsA l).length : Int) > 1048576 := of_decide_eq_true h
    rw [hlen] at h
    rw [if_pos h] at hQ
    refine Eq.mp ?_ hQ
    kernel_rfl
  rename_i h
  have h : ¬ ((bsA l).length : Int) > 1048576 := of_decide_eq_false h
  rw [hlen] at h
  rw [if_neg h] at hQ
  conv => whnf
  refine ⟨l, rfl, hl, ?_⟩
  rcases h1 : dNum l (0, false) with ⟨⟨a1, b1⟩, k⟩
  rw [h1] at hQ
  dsimp only at hQ
  cases b1 with
  | true =>
    conv => whnf
    refine Eq.mp ?_ hQ
    kernel_rfl
  | false =>
  conv => whnf
  split
  · rename_i h2; have h2 : (!knownB k) = true := h2
    rw [h2] at hQ
    conv => whnf
    refine Eq.mp ?_ hQ
    kernel_rfl
  rename_i h2; have h2 : (!knownB k) = false := h2
  rw [h2] at hQ
  conv => whnf
  simp only [Bool.or_self, _root_.cond_false] at hQ
  refine aloop_at ?_ ?_ (aloop_inv (σ := Nat × Nat × MsV × Int × Bool) (fun s => ((sp 0 57 [(0, .slice (bsA l)), (2, .ptr 0 0), (4, .ptr 1 0), (5, .ptr 2 0), (7, .ptr 3 0), (8, .int .i64 (s.1 : Nat))]), [.var zC, .var (cellsF k s.2.1 s.2.2.1), .var (inS l s.2.2.2), .var (fldC k)]))
    (fun s => s.1 ≤ 15 ∧ s.2.1 ≤ 4 ∧ (cellsF k s.2.1 s.2.2.1).map unz = msC s.2.2.1 ∧ (s.1 < 15 → tailZ s.1 (cellsF k s.2.1 s.2.2.1)) ∧ dLoopF l k 15 0 ((a1, false), { zM with kind := k }) = dLoopF l k (15 - s.1) s.1 (s.2.2.2, s.2.2.1)) (fun s => 15 - s.1) ?_ N (0, 0, { zM with kind := k }, a1, false) ⟨Nat.zero_le _, Nat.zero_le _, rfl, fun _ => ⟨fun _ => rfl, fun _ => rfl, rfl⟩, rfl⟩ (by dsimp only; omega))
  · kernel_rfl
  · kernel_rfl
  clear hN
  rintro ⟨i, f, m, a, b⟩ ⟨hi, hf, hu, hz, hinv⟩ R hR
  dsimp only at hi hf hu hz hinv
  have hf5 : f = 0 ∨ f = 1 ∨ f = 2 ∨ f = 3 ∨ f = 4 := by omega
  have hget : ∀ i < 15, (fldC k)[i]? = some (.bool (hasF k i)) := fun i h => by
    match i, h with
    | 0, _ | 1, _ | 2, _ | 3, _ | 4, _ | 5, _ | 6, _ | 7, _ | 8, _ | 9, _ | 10, _ | 11, _ | 12, _ | 13, _ | 14, _ => rfl
    | i + 15, h => omega
  rcases hf5 with rfl | rfl | rfl | rfl | rfl
  all_goals
    conv => whnf
    split
    rotate_left
    · rename_i h3; have h3 : ¬ (i : Int) < 15 := of_decide_eq_false h3
      have hi15 : i = 15 := by omega
      subst hi15
      clear hR
      have hfin : dLoopF l k 15 0 ((a1, false), { zM with kind := k }) = ((a, b), m) := hinv
      rw [hfin] at hQ
      dsimp only at hQ
      cases b with
      | true =>
        conv => whnf
        refine Eq.mp ?_ hQ
        kernel_rfl
      | false =>
        conv => whnf
        rw [hlen]
        simp only [Bool.false_or] at hQ
        cases hb : (a != (l.length : Int)) with
        | true =>
          rw [hb] at hQ
          conv => whnf
          refine Eq.mp ?_ hQ
          kernel_rfl
        | false =>
          rw [hb] at hQ
          simp only [_root_.cond_false] at hQ
          rw [← hu] at hQ
          conv => whnf
          refine Eq.mp ?_ hQ
          kernel_rfl
    rename_i h3; have h3 : (i : Int) < 15 := of_decide_eq_true h3
    have h15 : i < 15 := by omega
    have ht := hz h15
    obtain ⟨n, hn⟩ : ∃ n, 15 - i = n + 1 := ⟨14 - i, by omega⟩
    have hn2 : 15 - (i + 1) = n := by omega
    rw [hn] at hinv
    have hi1 : IntKind.i64.wrap ((i : Int) + 1) = ((i + 1 : Nat) : Int) := by rw [IntWalk.i64_in _ (by omega)]; omega
    conv => whnf
    refine ⟨by show (0 : Int) ≤ (i : Nat); omega, by show ((i : Nat) : Int) < 15; omega, ?_⟩
    conv => whnf
    refine nth_at (c := .bool (hasF k i)) ?_ ?_
    · show (fldC k)[0 + ((i : Nat) : Int).toNat * 1]? = _
      rw [show 0 + ((i : Nat) : Int).toNat * 1 = i by omega]
      exact hget i h15
    conv => whnf
    split
    · rename_i h4; have h4 : hasF k i = true := h4
      conv => whnf
      refine ⟨l, m, i, rfl, hu, ht, hl, Nat.zero_le _, h15, rfl, ?_⟩
      have hu2 := next_unz l (a, b) h15 (okTail_of hu ht)
      have hz2 := next_tail (dField l (a, b) m i).2 i
      have hst : dLoopF l k 15 0 ((a1, false), { zM with kind := k }) = dLoopF l k n (i + 1) (dField l (a, b) m i) := by rw [hinv]; simp only [dLoopF, h4, _root_.cond_true]
      have hs : stg i = 0 ∨ stg i = 1 ∨ stg i = 2 ∨ stg i = 3 := by unfold stg; omega
      generalize stg i = st at hu2 hz2 hs ⊢
      rcases hd : dField l (a, b) m i with ⟨⟨a2, b2⟩, m2⟩
      rw [hd] at hu2 hz2 hst
      dsimp only at hu2 hz2
      rcases hs with rfl | rfl | rfl | rfl
      · conv => whnf
        refine R_at ?_ ?_ (hR (i + 1, 1, m2, a2, b2) ⟨by omega, (by decide : 1 ≤ 4), hu2, fun g => hz2 (by omega), by rw [hn2]; exact hst⟩ (by dsimp only; omega))
        · rw [← hi1]; kernel_rfl
        · kernel_rfl
      · conv => whnf
        refine R_at ?_ ?_ (hR (i + 1, 2, m2, a2, b2) ⟨by omega, (by decide : 2 ≤ 4), hu2, fun g => hz2 (by omega), by rw [hn2]; exact hst⟩ (by dsimp only; omega))
        · rw [← hi1]; kernel_rfl
        · kernel_rfl
      · conv => whnf
        refine R_at ?_ ?_ (hR (i + 1, 3, m2, a2, b2) ⟨by omega, (by decide : 3 ≤ 4), hu2, fun g => hz2 (by omega), by rw [hn2]; exact hst⟩ (by dsimp only; omega))
        · rw [← hi1]; kernel_rfl
        · kernel_rfl
      · conv => whnf
        refine R_at ?_ ?_ (hR (i + 1, 4, m2, a2, b2) ⟨by omega, (by decide : 4 ≤ 4), hu2, fun g => hz2 (by omega), by rw [hn2]; exact hst⟩ (by dsimp only; omega))
        · rw [← hi1]; kernel_rfl
        · kernel_rfl
    · rename_i h4; have h4 : hasF k i = false := h4
      have hst : dLoopF l k 15 0 ((a1, false), { zM with kind := k }) = dLoopF l k n (i + 1) ((a, b), m) := by rw [hinv]; simp only [dLoopF, h4, _root_.cond_false]
      conv => whnf
      refine R_at ?_ ?_ (hR (i + 1, _, m, a, b) ⟨by omega, hf, hu, fun _ => tailZ_succ ht, by rw [hn2]; exact hst⟩ (by dsimp only; omega))
      · rw [← hi1]; kernel_rfl
      · kernel_rfl

set_option maxRecDepth 100000 in
theorem s21 {T : Tab} (hT : TGood Tryd.prog T) : SGood Tryd.prog 21 (pureT g21) := pureT_good g21_det fun args Q h => by
  unfold g21 at h
  split at h
  · obtain ⟨l, rfl, hl, hQ⟩ := h
    exact body_pure (T21_good hT) mixedT Tryd.func21 (entersOf Tryd.func21 (by kernel_rfl) rfl) 16 (f21_ok l hl T Q hQ 16 (by omega))
  · exact h.elim

end Go.Abs

