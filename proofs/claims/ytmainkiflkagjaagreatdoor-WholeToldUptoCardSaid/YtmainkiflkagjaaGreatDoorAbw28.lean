/-
choose.All is what it comes to.
-/
import Derived.Test.YtmainkiflkagjaaGreatDoorAbw23
import Derived.Test.YtmainkiflkagjaaGreatDoorAbw19
namespace Go.Abs
open Go Go.Proofs

def balNe (a b : BalV) : Bool := !((a.view == b.view) && (a.turn == b.turn))
def allG (b : BalV) (n : Int) : Int → List RpV → Bool
  | _, [] => true
  | last, r :: l => cond (decide (r.replica ≤ last)) false (cond (balNe r.bal b) false (cond (rightR r n) (allG b n r.replica l) false))
theorem allG_cons (b : BalV) (n last : Int) (r : RpV) (l : List RpV) : allG b n last (r :: l) = cond (decide (r.replica ≤ last)) false (cond (balNe r.bal b) false (cond (rightR r n) (allG b n r.replica l) false)) := rfl
def allB (b : BalV) (l : List RpV) (n : Int) : Bool := cond (rightB n) (cond (((rpCL l).length : Int) != timesI n 2 1) false (allG b n (-1) l)) false
theorem rightR_neg {r : RpV} {n : Int} (h : r.replica < 0) : rightR r n = false := by unfold rightR; rw [decide_eq_true h]; cases rightB n <;> rfl
def OkRl (l : List RpV) : Prop := l.length ≤ 1099511627776 ∧ ∀ r ∈ l, OkRp r

def gal : GSpec := fun args K => match args with
  | [.agg [.int .i64 view, .int .i64 turn], .slice es, .int .i64 n] => ∃ l : List RpV, es = rpCL l ∧ OkRl l ∧ K (.ret (.bool (allB ⟨view, turn⟩ l n)))
  | _ => False
theorem gal_det (args : List AV) : Det (gal args) := by
  unfold gal
  repeat' (first | exact Det.no | exact Det.at _ | refine Det.and ?_ | refine Det.ex fun _ => ?_ | refine Det.cond ?_ ?_ | split)
theorem gal_flat (args : List AV) (o : AOut) (h : gal args (· = o)) : flatO o = true := by
  unfold gal at h
  split at h
  · obtain ⟨_, _, _, rfl⟩ := h; rfl
  · exact h.elim

set_option maxRecDepth 100000 in
set_option maxHeartbeats 32000000 in
theorem fal_ok (view turn n : Int) (l : List RpV) (hl : OkRl l) (T : Tab) (Q : AOut → Prop) (hQ : Q (.ret (.bool (allB ⟨view, turn⟩ l n)))) (N : Nat) (hN : l.length < N) :
    abody Tryz.prog (ext (ext (ext T 31 (flatT grt)) 45 (flatT gqu)) 10 (flatT gri)) 0 N Tryz.f13 [.agg [.int .i64 view, .int .i64 turn], .slice (rpCL l), .int .i64 n] [] (fun out Hs => Q (frzO Hs out)) := by
  have hlen : (rpCL l).length = l.length := by simp [rpCL]
  have hl1 := hl.1
  unfold allB at hQ
  conv => whnf
  cases hr : rightB n with
  | false =>
    rw [hr] at hQ
    conv => whnf
    refine Eq.mp ?_ hQ
    kernel_rfl
  | true =>
  rw [hr] at hQ
  conv => whnf
  cases h2 : (((rpCL l).length : Int) != timesI n 2 1) with
  | true =>
    rw [h2] at hQ
    conv => whnf
    refine Eq.mp ?_ hQ
    kernel_rfl
  | false =>
  rw [h2] at hQ
  replace hQ : Q (.ret (.bool (allG ⟨view, turn⟩ n (-1) l))) := hQ
  conv => whnf
  refine aloop_at ?_ ?_ (aloop_inv (σ := Nat × Int) (fun s => ((sp 0 52 [(1, .slice (rpCL l)), (2, .int .i64 n), (3, .ptr 0 0), (19, .slice (rpCL l)), (20, .int .i64 ((rpCL l).length : Nat)), (21, .int .i64 (s.1 : Nat))]), [.var [.int .i64 view, .int .i64 turn]]))
    (fun s => s.1 ≤ l.length ∧ allG ⟨view, turn⟩ n (-1) l = allG ⟨view, turn⟩ n s.2 (l.drop s.1) ∧ ((s.1 = 0 ∧ s.2 = -1) ∨ (∃ u, 1 ≤ s.1 ∧ l[s.1 - 1]? = some u ∧ s.2 = u.replica))) (fun s => l.length - s.1) ?_ N (0, -1) ⟨Nat.zero_le _, rfl, .inl ⟨rfl, rfl⟩⟩ (by dsimp only; omega))
  · kernel_rfl
  · kernel_rfl
  rintro ⟨i, last⟩ ⟨i1, i2, iu⟩ R hR
  dsimp only at i1 i2 iu
  rw [i2] at hQ
  conv => whnf
  split
  rotate_left
  · rename_i h3; have h3 : ¬ (i : Int) < (rpCL l).length := of_decide_eq_false h3
    rw [hlen] at h3
    rw [List.drop_of_length_le (by omega)] at hQ
    refine Eq.mp ?_ hQ
    kernel_rfl
  rename_i h3; have h3 : (i : Int) < (rpCL l).length := of_decide_eq_true h3
  rw [hlen] at h3
  obtain ⟨r, hrr⟩ : ∃ r, l[i]? = some r := ⟨l[i]'(by omega), List.getElem?_eq_getElem (by omega)⟩
  have hra : (rpCL l)[i]? = some (rpC r) := by simp [rpCL, hrr]
  have hok := hl.2 r (List.mem_of_getElem? hrr)
  rw [drop_get hrr, allG_cons] at i2 hQ
  have hi1 : IntKind.i64.wrap ((i : Int) + 1) = ((i + 1 : Nat) : Int) := by rw [IntWalk.i64_in _ (by omega)]; omega
  conv => whnf
  refine ⟨by show (0 : Int) ≤ (i : Nat); omega, by show ((i : Nat) : Int) < ((rpCL l).length : Nat); omega, _, hra, by kernel_rfl, ?_⟩
  conv => whnf
  refine ⟨[], ?_⟩
  conv => whnf
  refine ⟨eq2_25, rfl, rfl, ?_⟩
  rw [show balNe r.bal ⟨view, turn⟩ = (!((r.bal.view == view) && (r.bal.turn == turn))) from rfl] at hQ i2
  generalize (!((r.bal.view == view) && (r.bal.turn == turn))) = g at hQ i2 ⊢
  have out : (r.replica ≤ last ∨ g = true) → Q (.ret (.bool false)) := fun h => by
    by_cases h1 : r.replica ≤ last
    · rw [decide_eq_true h1] at hQ; exact hQ
    · rcases h with h | h
      · exact absurd h h1
      · rw [decide_eq_false h1, h] at hQ; exact hQ
  have fin3 : ¬ r.replica ≤ last → g = false → Q (.ret (.bool (cond (rightR r n) (allG ⟨view, turn⟩ n r.replica (l.drop (i + 1))) false))) ∧ allG ⟨view, turn⟩ n (-1) l = cond (rightR r n) (allG ⟨view, turn⟩ n r.replica (l.drop (i + 1))) false := fun h1 h2 => by
    rw [decide_eq_false h1, h2] at hQ i2
    exact ⟨hQ, i2⟩
  clear hQ i2
  cases g with
  | true =>
    conv => whnf
    repeat (refine ⟨rfl, ?_⟩; conv => whnf)
    refine Eq.mp ?_ (out (.inr rfl))
    kernel_rfl
  | false =>
  replace fin3 := fun h => fin3 h rfl
  conv => whnf
  repeat (refine ⟨rfl, ?_⟩; conv => whnf)
  cases h6 : decide ((i : Int) > 0) with
  | false =>
    have h6 := of_decide_eq_false h6
    have hl0 : last = -1 := by rcases iu with ⟨_, h⟩ | ⟨_, h, _⟩ <;> omega
    conv => whnf
    repeat (refine ⟨rfl, ?_⟩; conv => whnf)
    by_cases hneg : r.replica < 0
    · have hF := rightR_neg (n := n) hneg
      refine ⟨r, rfl, hok, ?_⟩
      rw [hF]
      conv => whnf
      repeat (refine ⟨rfl, ?_⟩; conv => whnf)
      refine Eq.mp ?_ (out (.inl (by omega)))
      kernel_rfl
    · have hle : ¬ r.replica ≤ last := by omega
      have f3 := fin3 hle
      refine ⟨r, rfl, hok, ?_⟩
      generalize hb : rightR r n = b
      rw [hb] at f3
      obtain ⟨hQ, i3⟩ := f3
      cases b with
      | false =>
        conv => whnf
        repeat (refine ⟨rfl, ?_⟩; conv => whnf)
        refine Eq.mp ?_ hQ
        kernel_rfl
      | true =>
        conv => whnf
        repeat (refine ⟨rfl, ?_⟩; conv => whnf)
        refine R_at ?_ ?_ (hR (i + 1, r.replica) ⟨by dsimp only; omega, i3, .inr ⟨r, by dsimp only; omega, by dsimp only; rw [Nat.add_sub_cancel]; exact hrr, rfl⟩⟩ (by dsimp only; omega))
        · rw [← hi1]; kernel_rfl
        · kernel_rfl
  | true =>
    have h6 := of_decide_eq_true h6
    rcases iu with ⟨h, _⟩ | ⟨u, hu1, hu2, hu3⟩
    · omega
    have hm : IntKind.i64.wrap ((i : Int) - 1) = ((i - 1 : Nat) : Int) := by rw [IntWalk.i64_in _ (by omega)]; omega
    have hua : (rpCL l)[(IntKind.i64.wrap ((i : Int) - 1)).toNat]? = some (rpC u) := by rw [hm, Int.toNat_natCast]; simp [rpCL, hu2]
    conv => whnf
    repeat (refine ⟨rfl, ?_⟩; conv => whnf)
    refine ⟨by show (0 : Int) ≤ IntKind.i64.wrap ((i : Int) - 1); rw [hm]; omega, by show IntKind.i64.wrap ((i : Int) - 1) < ((rpCL l).length : Nat); rw [hm]; omega, _, hua, by kernel_rfl, ?_⟩
    conv => whnf
    repeat (refine ⟨rfl, ?_⟩; conv => whnf)
    cases h7 : decide (r.replica ≤ u.replica) with
    | true =>
      have h7 := of_decide_eq_true h7
      conv => whnf
      repeat (refine ⟨rfl, ?_⟩; conv => whnf)
      refine Eq.mp ?_ (out (.inl (by omega)))
      kernel_rfl
    | false =>
      have h7 := of_decide_eq_false h7
      have hle : ¬ r.replica ≤ last := by omega
      conv => whnf
      repeat (refine ⟨rfl, ?_⟩; conv => whnf)
      have f3 := fin3 hle
      refine ⟨r, rfl, hok, ?_⟩
      generalize hb : rightR r n = b
      rw [hb] at f3
      obtain ⟨hQ, i3⟩ := f3
      cases b with
      | false =>
        conv => whnf
        repeat (refine ⟨rfl, ?_⟩; conv => whnf)
        refine Eq.mp ?_ hQ
        kernel_rfl
      | true =>
        conv => whnf
        repeat (refine ⟨rfl, ?_⟩; conv => whnf)
        refine R_at ?_ ?_ (hR (i + 1, r.replica) ⟨by dsimp only; omega, i3, .inr ⟨r, by dsimp only; omega, by dsimp only; rw [Nat.add_sub_cancel]; exact hrr, rfl⟩⟩ (by dsimp only; omega))
        · rw [← hi1]; kernel_rfl
        · kernel_rfl

set_option maxRecDepth 100000 in
theorem sal {T : Tab} (hT : TGood Tryz.prog T) : SGood Tryz.prog 13 (flatT gal) := flatT_good gal_det gal_flat fun args Q h => by
  unfold gal at h
  split at h
  · skip
    obtain ⟨l, rfl, hl, hQ⟩ := h
    have t0 := ext_good hT (srt hT)
    have t1 := ext_good t0 (squ t0)
    have t2 := ext_good t1 (sri t1)
    exact body_pure t2 mixedT Tryz.func13 (entersOf Tryz.func13 (by kernel_rfl) rfl) _ (fal_ok _ _ _ l hl T Q hQ (l.length + 1) (Nat.lt_succ_self _))
  · exact h.elim

end Go.Abs

