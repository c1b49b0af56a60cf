/-
(*sha.state).block within a Hash.
-/
import Derived.Test.YtmainkiflkagjaaGreatDoorAbw13
namespace Go.Abs
open Go Go.Proofs

set_option maxRecDepth 100000 in
set_option maxHeartbeats 32000000 in
theorem f155_B (s : V8) (l : List Int) (o n : Nat) (z : Int) (es : List (List AV)) (hb : okB l) (h64 : 64 ≤ l.length ∧ l.length ≤ 1099511627776) (T : Tab) (Q : AOut → Heap → Prop) (hQ : Q (.ret (.tuple [])) [.var (c8 (blk s l) ++ [.srow 1 o n, .int .u64 z]), .row false 5 1 es]) (N : Nat) (hN : 64 < N) :
    abody Tryz.prog (T155 T) 2 N Tryz.f175 [.ptr 0 0, .slice (bsA l)] [.var (c8 s ++ [.srow 1 o n, .int .u64 z]), .row false 5 1 es] Q := by
  have hl : (bsA l).length = l.length := bsA_length l
  conv => whnf
  refine aloop_at ?_ ?_ (aloop_inv (σ := Nat) (fun t => ((sp 0 187 [(0, .ptr 0 0), (1, .slice (bsA l)), (4, .ptr 2 0), (5, .ptr 3 0), (17, .int .i64 (t : Nat))]), [.var (c8 s ++ [.srow 1 o n, .int .u64 z]), .row false 5 1 es, .var (a64 kF), .var (a64 (wordsN l t))]))
    (fun t => t ≤ 64) (fun t => 64 - t) ?_ N 0 (Nat.zero_le _) (by omega))
  · kernel_rfl
  · kernel_rfl
  rintro t ht R hR
  conv => whnf
  split
  · rename_i h2; have h2 : (t : Int) < 64 := of_decide_eq_true h2
    have hi1 : IntKind.i64.wrap ((t : Int) + 1) = ((t + 1 : Nat) : Int) := by rw [IntWalk.i64_in _ (by omega)]; omega
    conv => whnf
    split
    · rename_i h3; have h3 : (t : Int) < 16 := of_decide_eq_true h3
      have b0 : IntKind.i64.wrap (4 * (t : Int)) = ((4 * t : Nat) : Int) := by rw [IntWalk.i64_in _ (by omega)]; omega
      have b1 : IntKind.i64.wrap (IntKind.i64.wrap (4 * (t : Int)) + 1) = ((4 * t + 1 : Nat) : Int) := by rw [b0, IntWalk.i64_in _ (by omega)]; omega
      have b2 : IntKind.i64.wrap (IntKind.i64.wrap (4 * (t : Int)) + 2) = ((4 * t + 2 : Nat) : Int) := by rw [b0, IntWalk.i64_in _ (by omega)]; omega
      have b3 : IntKind.i64.wrap (IntKind.i64.wrap (4 * (t : Int)) + 3) = ((4 * t + 3 : Nat) : Int) := by rw [b0, IntWalk.i64_in _ (by omega)]; omega
      conv => whnf
      refine ⟨[35], ?_⟩
      conv => whnf
      rw [b0]
      refine ⟨by omega, by rw [hl]; omega, _, bs_get (by omega), by kernel_rfl, ?_⟩
      conv => whnf
      rw [b1]
      refine ⟨by omega, by rw [hl]; omega, _, bs_get (by omega), by kernel_rfl, ?_⟩
      conv => whnf
      rw [b2]
      refine ⟨by omega, by rw [hl]; omega, _, bs_get (by omega), by kernel_rfl, ?_⟩
      conv => whnf
      rw [b3]
      refine ⟨by omega, by rw [hl]; omega, _, bs_get (by omega), by kernel_rfl, ?_⟩
      conv => whnf
      refine ⟨by omega, by show (t : Int) < 64; omega, ?_⟩
      conv => whnf
      refine dec_true _ ⟨by kernel_rfl, by kernel_rfl, ?_⟩ ?_
      · show 0 + (t : Int).toNat * 1 + 1 ≤ 64
        omega
      conv => whnf
      refine force_over (a64 (wordsN l (t + 1))) ?_ ?_
      · refine Eq.trans (b := overAt (a64 (wordsN l t)) (0 + (t : Int).toNat * 1) [.int .u32 (wordO (l.getD (4 * t) 0) (l.getD (4 * t + 1) 0) (l.getD (4 * t + 2) 0) (l.getD (4 * t + 3) 0))]) (by kernel_rfl) ?_
        rw [word_eq (okB_getD hb _) (okB_getD hb _) (okB_getD hb _) (okB_getD hb _), show 0 + (t : Int).toNat * 1 = t by omega, a64_over _ (by omega)]
        congr 1
        funext j
        simp only [wordsN, if_pos (show t < 16 by omega)]
        rfl
      conv => whnf
      refine R_at ?_ ?_ (hR (t + 1) (by omega) (by omega))
      · rw [← hi1]; kernel_rfl
      · kernel_rfl
    rename_i h3; have h3 : ¬ (t : Int) < 16 := of_decide_eq_false h3
    have w15 : IntKind.i64.wrap ((t : Int) - 15) = ((t - 15 : Nat) : Int) := by rw [IntWalk.i64_in _ (by omega)]; omega
    have w2 : IntKind.i64.wrap ((t : Int) - 2) = ((t - 2 : Nat) : Int) := by rw [IntWalk.i64_in _ (by omega)]; omega
    have w7 : IntKind.i64.wrap ((t : Int) - 7) = ((t - 7 : Nat) : Int) := by rw [IntWalk.i64_in _ (by omega)]; omega
    have w16 : IntKind.i64.wrap ((t : Int) - 16) = ((t - 16 : Nat) : Int) := by rw [IntWalk.i64_in _ (by omega)]; omega
    conv => whnf
    refine ⟨[], ?_⟩
    conv => whnf
    rw [w15]
    refine ⟨by omega, by show ((t - 15 : Nat) : Int) < 64; omega, ?_⟩
    conv => whnf
    refine nth_at (c := .int .u32 ((wordsN l t) (t - 15))) ?_ ?_
    · exact a64_get _ (by omega)
    conv => whnf
    rw [w2]
    refine ⟨by omega, by show ((t - 2 : Nat) : Int) < 64; omega, ?_⟩
    conv => whnf
    refine nth_at (c := .int .u32 ((wordsN l t) (t - 2))) ?_ ?_
    · exact a64_get _ (by omega)
    conv => whnf
    refine ⟨[29], ?_⟩
    conv => whnf
    refine ⟨⟨by decide, by decide⟩, ?_⟩
    conv => whnf
    refine ⟨rfl, ?_⟩
    conv => whnf
    refine ⟨⟨by decide, by decide⟩, ?_⟩
    conv => whnf
    refine ⟨rfl, ?_⟩
    conv => whnf
    rw [w7]
    refine ⟨by omega, by show ((t - 7 : Nat) : Int) < 64; omega, ?_⟩
    conv => whnf
    refine nth_at (c := .int .u32 ((wordsN l t) (t - 7))) ?_ ?_
    · exact a64_get _ (by omega)
    conv => whnf
    refine ⟨⟨by decide, by decide⟩, ?_⟩
    conv => whnf
    refine ⟨rfl, ?_⟩
    conv => whnf
    refine ⟨⟨by decide, by decide⟩, ?_⟩
    conv => whnf
    refine ⟨rfl, ?_⟩
    conv => whnf
    rw [w16]
    refine ⟨by omega, by show ((t - 16 : Nat) : Int) < 64; omega, ?_⟩
    conv => whnf
    refine nth_at (c := .int .u32 ((wordsN l t) (t - 16))) ?_ ?_
    · exact a64_get _ (by omega)
    conv => whnf
    refine ⟨by omega, by show (t : Int) < 64; omega, ?_⟩
    conv => whnf
    refine dec_true _ ⟨by kernel_rfl, by kernel_rfl, ?_⟩ ?_
    · show 0 + (t : Int).toNat * 1 + 1 ≤ 64
      omega
    conv => whnf
    refine force_over (a64 (wordsN l (t + 1))) ?_ ?_
    · refine Eq.trans (b := overAt (a64 (wordsN l t)) (0 + (t : Int).toNat * 1) [.int .u32 (wLater (wordsN l t) t)]) (by kernel_rfl) ?_
      rw [show 0 + (t : Int).toNat * 1 = t by omega, a64_over _ (by omega)]
      congr 1
      funext j
      simp only [wordsN, if_neg (show ¬ t < 16 by omega)]
    conv => whnf
    refine R_at ?_ ?_ (hR (t + 1) (by omega) (by omega))
    · rw [← hi1]; kernel_rfl
    · kernel_rfl
  rename_i h2; have h2 : ¬ (t : Int) < 64 := of_decide_eq_false h2
  obtain rfl : t = 64 := by omega
  conv => whnf
  clear hR R
  unfold blk at hQ
  generalize wordsN l 64 = w at hQ ⊢
  refine aloop_at ?_ ?_ (aloop_inv (σ := Nat) (fun t => ((sp 0 187 [(0, .ptr 0 0), (4, .ptr 2 0), (5, .ptr 3 0), (9, .ptr 4 0), (98, .int .i64 (t : Nat))]), [.var (c8 s ++ [.srow 1 o n, .int .u64 z]), .row false 5 1 es, .var (a64 kF), .var (a64 w), .var (c8 (rounds s w t))]))
    (fun t => t ≤ 64) (fun t => 64 - t) ?_ N 0 (Nat.zero_le _) (by omega))
  · kernel_rfl
  · kernel_rfl
  rintro t ht R hR
  conv => whnf
  split
  · rename_i h2; have h2 : (t : Int) < 64 := of_decide_eq_true h2
    have hi1 : IntKind.i64.wrap ((t : Int) + 1) = ((t + 1 : Nat) : Int) := by rw [IntWalk.i64_in _ (by omega)]; omega
    have hrd : rounds s w (t + 1) = rndO (kF t) (w t) (rounds s w t) := rnd_eq _ _ _
    generalize rounds s w t = v at hrd ⊢
    conv => whnf
    refine ⟨[], ?_⟩
    conv => whnf
    refine ⟨by decide, by decide, ?_⟩
    conv => whnf
    refine ⟨by decide, by decide, ?_⟩
    conv => whnf
    refine ⟨[], ?_⟩
    conv => whnf
    refine ⟨by decide, by decide, ?_⟩
    conv => whnf
    refine ⟨⟨by decide, by decide⟩, ?_⟩
    conv => whnf
    refine ⟨rfl, ?_⟩
    conv => whnf
    refine ⟨⟨by decide, by decide⟩, ?_⟩
    conv => whnf
    refine ⟨rfl, ?_⟩
    conv => whnf
    refine ⟨⟨by decide, by decide⟩, ?_⟩
    conv => whnf
    refine ⟨rfl, ?_⟩
    conv => whnf
    refine ⟨by decide, by decide, ?_⟩
    conv => whnf
    refine ⟨by decide, by decide, ?_⟩
    conv => whnf
    refine ⟨by omega, by show ((t : Nat) : Int) < 64; omega, ?_⟩
    conv => whnf
    refine nth_at (c := .int .u32 (kF (t))) ?_ ?_
    · exact a64_get _ (by omega)
    conv => whnf
    refine ⟨by omega, by show ((t : Nat) : Int) < 64; omega, ?_⟩
    conv => whnf
    refine nth_at (c := .int .u32 (w (t))) ?_ ?_
    · exact a64_get _ (by omega)
    conv => whnf
    refine ⟨[], ?_⟩
    conv => whnf
    refine ⟨⟨by decide, by decide⟩, ?_⟩
    conv => whnf
    refine ⟨rfl, ?_⟩
    conv => whnf
    refine ⟨⟨by decide, by decide⟩, ?_⟩
    conv => whnf
    refine ⟨rfl, ?_⟩
    conv => whnf
    refine ⟨⟨by decide, by decide⟩, ?_⟩
    conv => whnf
    refine ⟨rfl, ?_⟩
    conv => whnf
    refine ⟨by decide, by decide, ?_⟩
    conv => whnf
    refine ⟨by decide, by decide, ?_⟩
    conv => whnf
    refine ⟨by decide, by decide, ?_⟩
    conv => whnf
    refine ⟨by decide, by decide, ?_⟩
    conv => whnf
    refine ⟨[2], ?_⟩
    conv => whnf
    refine ⟨⟨by decide, by decide⟩, ?_⟩
    conv => whnf
    refine ⟨⟨by decide, by decide⟩, ?_⟩
    conv => whnf
    refine ⟨by decide, by decide, ?_⟩
    conv => whnf
    refine ⟨by decide, by decide, ?_⟩
    conv => whnf
    refine ⟨by decide, by decide, ?_⟩
    conv => whnf
    refine R_at ?_ ?_ (hR (t + 1) (by omega) (by omega))
    · rw [← hi1]; kernel_rfl
    · refine Eq.trans (b := [.var (c8 s ++ [.srow 1 o n, .int .u64 z]), .row false 5 1 es, .var (a64 kF), .var (a64 w), .var (c8 (rndO (kF t) (w t) v))]) (by kernel_rfl) ?_
      rw [← hrd]
  rename_i h2; have h2 : ¬ (t : Int) < 64 := of_decide_eq_false h2
  obtain rfl : t = 64 := by omega
  conv => whnf
  clear hR R
  generalize rounds s w 64 = v at hQ ⊢
  refine aloop_at ?_ ?_ (aloop_inv (σ := Nat) (fun i => ((sp 0 187 [(0, .ptr 0 0), (9, .ptr 2 0), (172, .int .i64 (i : Nat))]), [.var (c8s s v i ++ [.srow 1 o n, .int .u64 z]), .row false 5 1 es, .var (c8 v)]))
    (fun i => i ≤ 8) (fun i => 8 - i) ?_ N 0 (Nat.zero_le _) (by omega))
  · kernel_rfl
  · kernel_rfl
  rintro i hi R hR
  have hcs : i = 0 ∨ i = 1 ∨ i = 2 ∨ i = 3 ∨ i = 4 ∨ i = 5 ∨ i = 6 ∨ i = 7 ∨ i = 8 := by omega
  rcases hcs with rfl | rfl | rfl | rfl | rfl | rfl | rfl | rfl | rfl
  · conv => whnf
    refine ⟨[11], ?_⟩
    conv => whnf
    refine ⟨by decide, by decide, ?_⟩
    conv => whnf
    refine ⟨by decide, by decide, ?_⟩
    conv => whnf
    refine ⟨by decide, by decide, ?_⟩
    conv => whnf
    refine R_at ?_ ?_ (hR 1 (by omega) (by omega))
    · kernel_rfl
    · kernel_rfl
  · conv => whnf
    refine ⟨[11], ?_⟩
    conv => whnf
    refine ⟨by decide, by decide, ?_⟩
    conv => whnf
    refine ⟨by decide, by decide, ?_⟩
    conv => whnf
    refine ⟨by decide, by decide, ?_⟩
    conv => whnf
    refine R_at ?_ ?_ (hR 2 (by omega) (by omega))
    · kernel_rfl
    · kernel_rfl
  · conv => whnf
    refine ⟨[11], ?_⟩
    conv => whnf
    refine ⟨by decide, by decide, ?_⟩
    conv => whnf
    refine ⟨by decide, by decide, ?_⟩
    conv => whnf
    refine ⟨by decide, by decide, ?_⟩
    conv => whnf
    refine R_at ?_ ?_ (hR 3 (by omega) (by omega))
    · kernel_rfl
    · kernel_rfl
  · conv => whnf
    refine ⟨[11], ?_⟩
    conv => whnf
    refine ⟨by decide, by decide, ?_⟩
    conv => whnf
    refine ⟨by decide, by decide, ?_⟩
    conv => whnf
    refine ⟨by decide, by decide, ?_⟩
    conv => whnf
    refine R_at ?_ ?_ (hR 4 (by omega) (by omega))
    · kernel_rfl
    · kernel_rfl
  · conv => whnf
    refine ⟨[11], ?_⟩
    conv => whnf
    refine ⟨by decide, by decide, ?_⟩
    conv => whnf
    refine ⟨by decide, by decide, ?_⟩
    conv => whnf
    refine ⟨by decide, by decide, ?_⟩
    conv => whnf
    refine R_at ?_ ?_ (hR 5 (by omega) (by omega))
    · kernel_rfl
    · kernel_rfl
  · conv => whnf
    refine ⟨[11], ?_⟩
    conv => whnf
    refine ⟨by decide, by decide, ?_⟩
    conv => whnf
    refine ⟨by decide, by decide, ?_⟩
    conv => whnf
    refine ⟨by decide, by decide, ?_⟩
    conv => whnf
    refine R_at ?_ ?_ (hR 6 (by omega) (by omega))
    · kernel_rfl
    · kernel_rfl
  · conv => whnf
    refine ⟨[11], ?_⟩
    conv => whnf
    refine ⟨by decide, by decide, ?_⟩
    conv => whnf
    refine ⟨by decide, by decide, ?_⟩
    conv => whnf
    refine ⟨by decide, by decide, ?_⟩
    conv => whnf
    refine R_at ?_ ?_ (hR 7 (by omega) (by omega))
    · kernel_rfl
    · kernel_rfl
  · conv => whnf
    refine ⟨[11], ?_⟩
    conv => whnf
    refine ⟨by decide, by decide, ?_⟩
    conv => whnf
    refine ⟨by decide, by decide, ?_⟩
    conv => whnf
    refine ⟨by decide, by decide, ?_⟩
    conv => whnf
    refine R_at ?_ ?_ (hR 8 (by omega) (by omega))
    · kernel_rfl
    · kernel_rfl
  · conv => whnf
    refine Eq.mp ?_ hQ
    kernel_rfl


end Go.Abs

/-
(*sha.state).block within a Hash.
-/
namespace Go.Abs
open Go Go.Proofs

set_option maxRecDepth 100000 in
set_option maxHeartbeats 32000000 in
theorem f155_C (s : V8) (l : List Int) (z : Int) (es : List (List AV)) (hb : okB l) (h64 : 64 ≤ l.length ∧ l.length ≤ 1099511627776) (T : Tab) (Q : AOut → Heap → Prop) (hQ : Q (.ret (.tuple [])) [.var (c8 (blk s l) ++ [.row 1, .int .u64 z]), .row false 5 1 es]) (N : Nat) (hN : 64 < N) :
    abody Tryz.prog (T155 T) 2 N Tryz.f175 [.ptr 0 0, .slice (bsA l)] [.var (c8 s ++ [.row 1, .int .u64 z]), .row false 5 1 es] Q := by
  have hl : (bsA l).length = l.length := bsA_length l
  conv => whnf
  refine aloop_at ?_ ?_ (aloop_inv (σ := Nat) (fun t => ((sp 0 187 [(0, .ptr 0 0), (1, .slice (bsA l)), (4, .ptr 2 0), (5, .ptr 3 0), (17, .int .i64 (t : Nat))]), [.var (c8 s ++ [.row 1, .int .u64 z]), .row false 5 1 es, .var (a64 kF), .var (a64 (wordsN l t))]))
    (fun t => t ≤ 64) (fun t => 64 - t) ?_ N 0 (Nat.zero_le _) (by omega))
  · kernel_rfl
  · kernel_rfl
  rintro t ht R hR
  conv => whnf
  split
  · rename_i h2; have h2 : (t : Int) < 64 := of_decide_eq_true h2
    have hi1 : IntKind.i64.wrap ((t : Int) + 1) = ((t + 1 : Nat) : Int) := by rw [IntWalk.i64_in _ (by omega)]; omega
    conv => whnf
    split
    · rename_i h3; have h3 : (t : Int) < 16 := of_decide_eq_true h3
      have b0 : IntKind.i64.wrap (4 * (t : Int)) = ((4 * t : Nat) : Int) := by rw [IntWalk.i64_in _ (by omega)]; omega
      have b1 : IntKind.i64.wrap (IntKind.i64.wrap (4 * (t : Int)) + 1) = ((4 * t + 1 : Nat) : Int) := by rw [b0, IntWalk.i64_in _ (by omega)]; omega
      have b2 : IntKind.i64.wrap (IntKind.i64.wrap (4 * (t : Int)) + 2) = ((4 * t + 2 : Nat) : Int) := by rw [b0, IntWalk.i64_in _ (by omega)]; omega
      have b3 : IntKind.i64.wrap (IntKind.i64.wrap (4 * (t : Int)) + 3) = ((4 * t + 3 : Nat) : Int) := by rw [b0, IntWalk.i64_in _ (by omega)]; omega
      conv => whnf
      refine ⟨[35], ?_⟩
      conv => whnf
      rw [b0]
      refine ⟨by omega, by rw [hl]; omega, _, bs_get (by omega), by kernel_rfl, ?_⟩
      conv => whnf
      rw [b1]
      refine ⟨by omega, by rw [hl]; omega, _, bs_get (by omega), by kernel_rfl, ?_⟩
      conv => whnf
      rw [b2]
      refine ⟨by omega, by rw [hl]; omega, _, bs_get (by omega), by kernel_rfl, ?_⟩
      conv => whnf
      rw [b3]
      refine ⟨by omega, by rw [hl]; omega, _, bs_get (by omega), by kernel_rfl, ?_⟩
      conv => whnf
      refine ⟨by omega, by show (t : Int) < 64; omega, ?_⟩
      conv => whnf
      refine dec_true _ ⟨by kernel_rfl, by kernel_rfl, ?_⟩ ?_
      · show 0 + (t : Int).toNat * 1 + 1 ≤ 64
        omega
      conv => whnf
      refine force_over (a64 (wordsN l (t + 1))) ?_ ?_
      · refine Eq.trans (b := overAt (a64 (wordsN l t)) (0 + (t : Int).toNat * 1) [.int .u32 (wordO (l.getD (4 * t) 0) (l.getD (4 * t + 1) 0) (l.getD (4 * t + 2) 0) (l.getD (4 * t + 3) 0))]) (by kernel_rfl) ?_
        rw [word_eq (okB_getD hb _) (okB_getD hb _) (okB_getD hb _) (okB_getD hb _), show 0 + (t : Int).toNat * 1 = t by omega, a64_over _ (by omega)]
        congr 1
        funext j
        simp only [wordsN, if_pos (show t < 16 by omega)]
        rfl
      conv => whnf
      refine R_at ?_ ?_ (hR (t + 1) (by omega) (by omega))
      · rw [← hi1]; kernel_rfl
      · kernel_rfl
    rename_i h3; have h3 : ¬ (t : Int) < 16 := of_decide_eq_false h3
    have w15 : IntKind.i64.wrap ((t : Int) - 15) = ((t - 15 : Nat) : Int) := by rw [IntWalk.i64_in _ (by omega)]; omega
    have w2 : IntKind.i64.wrap ((t : Int) - 2) = ((t - 2 : Nat) : Int) := by rw [IntWalk.i64_in _ (by omega)]; omega
    have w7 : IntKind.i64.wrap ((t : Int) - 7) = ((t - 7 : Nat) : Int) := by rw [IntWalk.i64_in _ (by omega)]; omega
    have w16 : IntKind.i64.wrap ((t : Int) - 16) = ((t - 16 : Nat) : Int) := by rw [IntWalk.i64_in _ (by omega)]; omega
    conv => whnf
    refine ⟨[], ?_⟩
    conv => whnf
    rw [w15]
    refine ⟨by omega, by show ((t - 15 : Nat) : Int) < 64; omega, ?_⟩
    conv => whnf
    refine nth_at (c := .int .u32 ((wordsN l t) (t - 15))) ?_ ?_
    · exact a64_get _ (by omega)
    conv => whnf
    rw [w2]
    refine ⟨by omega, by show ((t - 2 : Nat) : Int) < 64; omega, ?_⟩
    conv => whnf
    refine nth_at (c := .int .u32 ((wordsN l t) (t - 2))) ?_ ?_
    · exact a64_get _ (by omega)
    conv => whnf
    refine ⟨[29], ?_⟩
    conv => whnf
    refine ⟨⟨by decide, by decide⟩, ?_⟩
    conv => whnf
    refine ⟨rfl, ?_⟩
    conv => whnf
    refine ⟨⟨by decide, by decide⟩, ?_⟩
    conv => whnf
    refine ⟨rfl, ?_⟩
    conv => whnf
    rw [w7]
    refine ⟨by omega, by show ((t - 7 : Nat) : Int) < 64; omega, ?_⟩
    conv => whnf
    refine nth_at (c := .int .u32 ((wordsN l t) (t - 7))) ?_ ?_
    · exact a64_get _ (by omega)
    conv => whnf
    refine ⟨⟨by decide, by decide⟩, ?_⟩
    conv => whnf
    refine ⟨rfl, ?_⟩
    conv => whnf
    refine ⟨⟨by decide, by decide⟩, ?_⟩
    conv => whnf
    refine ⟨rfl, ?_⟩
    conv => whnf
    rw [w16]
    refine ⟨by omega, by show ((t - 16 : Nat) : Int) < 64; omega, ?_⟩
    conv => whnf
    refine nth_at (c := .int .u32 ((wordsN l t) (t - 16))) ?_ ?_
    · exact a64_get _ (by omega)
    conv => whnf
    refine ⟨by omega, by show (t : Int) < 64; omega, ?_⟩
    conv => whnf
    refine dec_true _ ⟨by kernel_rfl, by kernel_rfl, ?_⟩ ?_
    · show 0 + (t : Int).toNat * 1 + 1 ≤ 64
      omega
    conv => whnf
    refine force_over (a64 (wordsN l (t + 1))) ?_ ?_
    · refine Eq.trans (b := overAt (a64 (wordsN l t)) (0 + (t : Int).toNat * 1) [.int .u32 (wLater (wordsN l t) t)]) (by kernel_rfl) ?_
      rw [show 0 + (t : Int).toNat * 1 = t by omega, a64_over _ (by omega)]
      congr 1
      funext j
      simp only [wordsN, if_neg (show ¬ t < 16 by omega)]
    conv => whnf
    refine R_at ?_ ?_ (hR (t + 1) (by omega) (by omega))
    · rw [← hi1]; kernel_rfl
    · kernel_rfl
  rename_i h2; have h2 : ¬ (t : Int) < 64 := of_decide_eq_false h2
  obtain rfl : t = 64 := by omega
  conv => whnf
  clear hR R
  unfold blk at hQ
  generalize wordsN l 64 = w at hQ ⊢
  refine aloop_at ?_ ?_ (aloop_inv (σ := Nat) (fun t => ((sp 0 187 [(0, .ptr 0 0), (4, .ptr 2 0), (5, .ptr 3 0), (9, .ptr 4 0), (98, .int .i64 (t : Nat))]), [.var (c8 s ++ [.row 1, .int .u64 z]), .row false 5 1 es, .var (a64 kF), .var (a64 w), .var (c8 (rounds s w t))]))
    (fun t => t ≤ 64) (fun t => 64 - t) ?_ N 0 (Nat.zero_le _) (by omega))
  · kernel_rfl
  · kernel_rfl
  rintro t ht R hR
  conv => whnf
  split
  · rename_i h2; have h2 : (t : Int) < 64 := of_decide_eq_true h2
    have hi1 : IntKind.i64.wrap ((t : Int) + 1) = ((t + 1 : Nat) : Int) := by rw [IntWalk.i64_in _ (by omega)]; omega
    have hrd : rounds s w (t + 1) = rndO (kF t) (w t) (rounds s w t) := rnd_eq _ _ _
    generalize rounds s w t = v at hrd ⊢
    conv => whnf
    refine ⟨[], ?_⟩
    conv => whnf
    refine ⟨by decide, by decide, ?_⟩
    conv => whnf
    refine ⟨by decide, by decide, ?_⟩
    conv => whnf
    refine ⟨[], ?_⟩
    conv => whnf
    refine ⟨by decide, by decide, ?_⟩
    conv => whnf
    refine ⟨⟨by decide, by decide⟩, ?_⟩
    conv => whnf
    refine ⟨rfl, ?_⟩
    conv => whnf
    refine ⟨⟨by decide, by decide⟩, ?_⟩
    conv => whnf
    refine ⟨rfl, ?_⟩
    conv => whnf
    refine ⟨⟨by decide, by decide⟩, ?_⟩
    conv => whnf
    refine ⟨rfl, ?_⟩
    conv => whnf
    refine ⟨by decide, by decide, ?_⟩
    conv => whnf
    refine ⟨by decide, by decide, ?_⟩
    conv => whnf
    refine ⟨by omega, by show ((t : Nat) : Int) < 64; omega, ?_⟩
    conv => whnf
    refine nth_at (c := .int .u32 (kF (t))) ?_ ?_
    · exact a64_get _ (by omega)
    conv => whnf
    refine ⟨by omega, by show ((t : Nat) : Int) < 64; omega, ?_⟩
    conv => whnf
    refine nth_at (c := .int .u32 (w (t))) ?_ ?_
    · exact a64_get _ (by omega)
    conv => whnf
    refine ⟨[], ?_⟩
    conv => whnf
    refine ⟨⟨by decide, by decide⟩, ?_⟩
    conv => whnf
    refine ⟨rfl, ?_⟩
    conv => whnf
    refine ⟨⟨by decide, by decide⟩, ?_⟩
    conv => whnf
    refine ⟨rfl, ?_⟩
    conv => whnf
    refine ⟨⟨by decide, by decide⟩, ?_⟩
    conv => whnf
    refine ⟨rfl, ?_⟩
    conv => whnf
    refine ⟨by decide, by decide, ?_⟩
    conv => whnf
    refine ⟨by decide, by decide, ?_⟩
    conv => whnf
    refine ⟨by decide, by decide, ?_⟩
    conv => whnf
    refine ⟨by decide, by decide, ?_⟩
    conv => whnf
    refine ⟨[2], ?_⟩
    conv => whnf
    refine ⟨⟨by decide, by decide⟩, ?_⟩
    conv => whnf
    refine ⟨⟨by decide, by decide⟩, ?_⟩
    conv => whnf
    refine ⟨by decide, by decide, ?_⟩
    conv => whnf
    refine ⟨by decide, by decide, ?_⟩
    conv => whnf
    refine ⟨by decide, by decide, ?_⟩
    conv => whnf
    refine R_at ?_ ?_ (hR (t + 1) (by omega) (by omega))
    · rw [← hi1]; kernel_rfl
    · refine Eq.trans (b := [.var (c8 s ++ [.row 1, .int .u64 z]), .row false 5 1 es, .var (a64 kF), .var (a64 w), .var (c8 (rndO (kF t) (w t) v))]) (by kernel_rfl) ?_
      rw [← hrd]
  rename_i h2; have h2 : ¬ (t : Int) < 64 := of_decide_eq_false h2
  obtain rfl : t = 64 := by omega
  conv => whnf
  clear hR R
  generalize rounds s w 64 = v at hQ ⊢
  refine aloop_at ?_ ?_ (aloop_inv (σ := Nat) (fun i => ((sp 0 187 [(0, .ptr 0 0), (9, .ptr 2 0), (172, .int .i64 (i : Nat))]), [.var (c8s s v i ++ [.row 1, .int .u64 z]), .row false 5 1 es, .var (c8 v)]))
    (fun i => i ≤ 8) (fun i => 8 - i) ?_ N 0 (Nat.zero_le _) (by omega))
  · kernel_rfl
  · kernel_rfl
  rintro i hi R hR
  have hcs : i = 0 ∨ i = 1 ∨ i = 2 ∨ i = 3 ∨ i = 4 ∨ i = 5 ∨ i = 6 ∨ i = 7 ∨ i = 8 := by omega
  rcases hcs with rfl | rfl | rfl | rfl | rfl | rfl | rfl | rfl | rfl
  · conv => whnf
    refine ⟨[11], ?_⟩
    conv => whnf
    refine ⟨by decide, by decide, ?_⟩
    conv => whnf
    refine ⟨by decide, by decide, ?_⟩
    conv => whnf
    refine ⟨by decide, by decide, ?_⟩
    conv => whnf
    refine R_at ?_ ?_ (hR 1 (by omega) (by omega))
    · kernel_rfl
    · kernel_rfl
  · conv => whnf
    refine ⟨[11], ?_⟩
    conv => whnf
    refine ⟨by decide, by decide, ?_⟩
    conv => whnf
    refine ⟨by decide, by decide, ?_⟩
    conv => whnf
    refine ⟨by decide, by decide, ?_⟩
    conv => whnf
    refine R_at ?_ ?_ (hR 2 (by omega) (by omega))
    · kernel_rfl
    · kernel_rfl
  · conv => whnf
    refine ⟨[11], ?_⟩
    conv => whnf
    refine ⟨by decide, by decide, ?_⟩
    conv => whnf
    refine ⟨by decide, by decide, ?_⟩
    conv => whnf
    refine ⟨by decide, by decide, ?_⟩
    conv => whnf
    refine R_at ?_ ?_ (hR 3 (by omega) (by omega))
    · kernel_rfl
    · kernel_rfl
  · conv => whnf
    refine ⟨[11], ?_⟩
    conv => whnf
    refine ⟨by decide, by decide, ?_⟩
    conv => whnf
    refine ⟨by decide, by decide, ?_⟩
    conv => whnf
    refine ⟨by decide, by decide, ?_⟩
    conv => whnf
    refine R_at ?_ ?_ (hR 4 (by omega) (by omega))
    · kernel_rfl
    · kernel_rfl
  · conv => whnf
    refine ⟨[11], ?_⟩
    conv => whnf
    refine ⟨by decide, by decide, ?_⟩
    conv => whnf
    refine ⟨by decide, by decide, ?_⟩
    conv => whnf
    refine ⟨by decide, by decide, ?_⟩
    conv => whnf
    refine R_at ?_ ?_ (hR 5 (by omega) (by omega))
    · kernel_rfl
    · kernel_rfl
  · conv => whnf
    refine ⟨[11], ?_⟩
    conv => whnf
    refine ⟨by decide, by decide, ?_⟩
    conv => whnf
    refine ⟨by decide, by decide, ?_⟩
    conv => whnf
    refine ⟨by decide, by decide, ?_⟩
    conv => whnf
    refine R_at ?_ ?_ (hR 6 (by omega) (by omega))
    · kernel_rfl
    · kernel_rfl
  · conv => whnf
    refine ⟨[11], ?_⟩
    conv => whnf
    refine ⟨by decide, by decide, ?_⟩
    conv => whnf
    refine ⟨by decide, by decide, ?_⟩
    conv => whnf
    refine ⟨by decide, by decide, ?_⟩
    conv => whnf
    refine R_at ?_ ?_ (hR 7 (by omega) (by omega))
    · kernel_rfl
    · kernel_rfl
  · conv => whnf
    refine ⟨[11], ?_⟩
    conv => whnf
    refine ⟨by decide, by decide, ?_⟩
    conv => whnf
    refine ⟨by decide, by decide, ?_⟩
    conv => whnf
    refine ⟨by decide, by decide, ?_⟩
    conv => whnf
    refine R_at ?_ ?_ (hR 8 (by omega) (by omega))
    · kernel_rfl
    · kernel_rfl
  · conv => whnf
    refine Eq.mp ?_ hQ
    kernel_rfl


end Go.Abs

