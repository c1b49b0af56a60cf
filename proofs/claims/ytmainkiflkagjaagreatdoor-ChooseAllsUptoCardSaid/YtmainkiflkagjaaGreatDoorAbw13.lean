/-
catenaryref02.Sum is what it comes to.
-/
import Derived.Test.YtmainkiflkagjaaGreatDoorAbw12
namespace Go.Abs
open Go Go.Proofs

def h0 : V8 := ⟨1779033703, 3144134277, 1013904242, 2773480762, 1359893119, 2600822924, 528734635, 1541459225⟩
/-- The state behind so many blocks. -/
def hashN (s : V8) (m : List Int) : Nat → V8
  | 0 => s
  | i + 1 => blk (hashN s m i) ((m.drop (64 * i)).take 64)
def wordB (x : Int) : Nat → List Int
  | 0 => []
  | j + 1 => wordB x j ++ [IntKind.u8.wrap (x.fdiv (2 ^ (8 * (3 - j))))]
def vw (v : V8) : Nat → Int
  | 0 => v.a
  | 1 => v.b
  | 2 => v.c
  | 3 => v.d
  | 4 => v.e
  | 5 => v.f
  | 6 => v.g
  | _ => v.h
def outN (v : V8) : Nat → List Int
  | 0 => []
  | k + 1 => outN v k ++ wordB (vw v k) 4
def shaL (l : List Int) : List Int := outN (hashN h0 (padB l) ((padB l).length / 64)) 8
theorem wordB_len (x : Int) : ∀ j, (wordB x j).length = j
  | 0 => rfl
  | j + 1 => by simp [wordB, wordB_len x j]
theorem outN_len (v : V8) : ∀ k, (outN v k).length = 4 * k
  | 0 => rfl
  | k + 1 => by simp only [outN, List.length_append, outN_len v k, wordB_len]; omega
theorem shaL_len (l : List Int) : (shaL l).length = 32 := outN_len _ 8
theorem wrap8_ok (x : Int) : 0 ≤ IntKind.u8.wrap x ∧ IntKind.u8.wrap x < 256 := by
  rw [show IntKind.u8.wrap x = x % 256 by simp [IntKind.wrap, IntKind.bits, IntKind.signed]]
  omega
theorem wordB_ok (x : Int) : ∀ j, okB (wordB x j)
  | 0 => fun b hb => by cases hb
  | j + 1 => fun b hb => by
    simp only [wordB, List.mem_append, List.mem_singleton] at hb
    rcases hb with hb | rfl
    · exact wordB_ok x j b hb
    · exact wrap8_ok _
theorem outN_ok (v : V8) : ∀ k, okB (outN v k)
  | 0 => fun b hb => by cases hb
  | k + 1 => fun b hb => by
    rcases List.mem_append.1 hb with hb | hb
    · exact outN_ok v k b hb
    · exact wordB_ok _ 4 b hb
theorem shaL_ok (l : List Int) : okB (shaL l) := outN_ok _ 8
theorem cut64 (m : List Int) (i : Nat) : cutList (bsA m) (Option.map Int.toNat (some ((64 * i : Nat) : Int))) (Option.map Int.toNat (some (((64 * i : Nat) : Int) + 64))) = bsA ((m.drop (64 * i)).take 64) := by
  show ((bsA m).drop ((64 * i : Nat) : Int).toNat).take ((((64 * i : Nat) : Int) + 64).toNat - ((64 * i : Nat) : Int).toNat) = _
  rw [show ((64 * i : Nat) : Int).toNat = 64 * i by omega, show (((64 * i : Nat) : Int) + 64).toNat - 64 * i = 64 by omega]
  simp [bsA, List.map_drop, List.map_take]
def rvJ : Nat → AV
  | 0 => .zslice
  | _ + 1 => .row 0
def rhJ (l : List Int) : Nat → Heap
  | 0 => []
  | _ + 1 => [.row true 5 1 (bsA l)]

def g123 : GSpec := fun args K => match args with
  | [.slice es] => ∃ l : List Int, es = bsA l ∧ okB l ∧ l.length ≤ 1073741824 ∧ K (.ret (.slice (bsA (shaL l))))
  | _ => False
theorem g123_det (args : List AV) : Det (g123 args) := by
  unfold g123
  repeat' (first | exact Det.no | exact Det.at _ | refine Det.and ?_ | refine Det.ex fun _ => ?_ | refine Det.cond ?_ ?_ | split)

set_option maxRecDepth 100000 in
set_option maxHeartbeats 16000000 in
theorem f123_ok (l : List Int) (hb : okB l) (hl : l.length ≤ 1073741824) (T : Tab) (Q : AOut → Prop) (hQ : Q (.ret (.slice (bsA (shaL l))))) (N : Nat) (hN : l.length + 72 < N) :
    abody Tryz.prog (ext (ext T 171 (pureT g142)) 172 (flatT g143)) 0 N Tryz.f162 [.slice (bsA l)] [] (fun out Hs => Q (frzO Hs out)) := by
  conv => whnf
  refine ⟨l, rfl, by omega, ?_⟩
  conv => whnf
  unfold shaL at hQ
  obtain ⟨hm1, hm2, hm3⟩ := padB_len l
  have hmb := padB_ok hb
  generalize padB l = m at hm1 hm2 hm3 hmb hQ ⊢
  have hml : (bsA m).length = m.length := bsA_length m
  refine aloop_at ?_ ?_ (aloop_inv (σ := Nat) (fun i => ((sp 0 46 [(3, .ptr 0 0), (4, .slice (bsA m)), (5, .int .i64 (64 * i : Nat))]), [.var (c8 (hashN h0 m i))]))
    (fun i => i ≤ m.length / 64) (fun i => m.length / 64 - i) ?_ N 0 (Nat.zero_le _) (by omega))
  · kernel_rfl
  · kernel_rfl
  rintro i hi R hR
  conv => whnf
  split
  · rename_i h2; have h2 : ((64 * i : Nat) : Int) < (bsA m).length := of_decide_eq_true h2
    rw [hml] at h2
    have w1 : IntKind.i64.wrap (((64 * i : Nat) : Int) + 64) = ((64 * i : Nat) : Int) + 64 := by rw [IntWalk.i64_in _ (by omega)]
    conv => whnf
    refine ⟨[7], ?_⟩
    conv => whnf
    rw [w1]
    refine ⟨fun el hel => bsA_el hel, by rw [hml]; exact ⟨by omega, by omega, by omega⟩, ?_⟩
    conv => whnf
    refine ⟨hashN h0 m i, (m.drop (64 * i)).take 64, rfl, cut64 m i, fun b hbb => hmb b (List.mem_of_mem_drop (List.mem_of_mem_take hbb)), by rw [List.length_take, List.length_drop]; omega, ?_⟩
    conv => whnf
    refine ⟨rfl, ?_⟩
    conv => whnf
    repeat (refine ⟨by (conv => whnf); exact ⟨rfl, rfl⟩, ?_⟩; conv => whnf)
    refine R_at ?_ ?_ (hR (i + 1) (by omega) (by omega))
    · rw [show ((64 * (i + 1) : Nat) : Int) = IntKind.i64.wrap (((64 * i : Nat) : Int) + 64) by rw [w1]; omega]
      kernel_rfl
    · kernel_rfl
  rename_i h2; have h2 : ¬ ((64 * i : Nat) : Int) < (bsA m).length := of_decide_eq_false h2
  rw [hml] at h2
  obtain rfl : i = m.length / 64 := by omega
  conv => whnf
  clear hR R
  generalize hashN h0 m (m.length / 64) = v at hQ ⊢
  refine aloop_at ?_ ?_ (aloop_inv (σ := Nat) (fun k => ((sp 0 46 [(6, rvJ k), (27, .agg (c8 v)), (28, .int .i64 (k : Nat))]), rhJ (outN v k) k))
    (fun k => k ≤ 8) (fun k => 8 - k) ?_ N 0 (Nat.zero_le _) (by omega))
  · kernel_rfl
  · kernel_rfl
  rintro k hk R hR
  have hcs : k = 0 ∨ k = 1 ∨ k = 2 ∨ k = 3 ∨ k = 4 ∨ k = 5 ∨ k = 6 ∨ k = 7 ∨ k = 8 := by omega
  rcases hcs with rfl | rfl | rfl | rfl | rfl | rfl | rfl | rfl | rfl
  · conv => whnf
    refine ⟨by decide, by decide, ?_⟩
    conv => whnf
    refine aloop_at ?_ ?_ (aloop_inv (σ := Nat) (fun j => (sp 0 46 [(6, rvJ j), (8, .int .u32 (vw v 0)), (9, .int .i64 (3 - (j : Nat))), (27, .agg (c8 v)), (28, .int .i64 0)], rhJ (wordB (vw v 0) j) j))
      (fun j => j ≤ 4) (fun j => 4 - j) ?_ N 0 (Nat.zero_le _) (by omega))
    · kernel_rfl
    · kernel_rfl
    rintro j hj R2 hR2
    rcases j with _ | j
    · conv => whnf
      refine ⟨fits_at (ys' := bsA [IntKind.u8.wrap ((vw v 0).fdiv (2 ^ 24))]) (by kernel_rfl) (by exact fits_bs (by simp)), ?_⟩
      conv => whnf
      refine R_at ?_ ?_ (hR2 1 (by omega) (by omega))
      · kernel_rfl
      · kernel_rfl
    · conv => whnf
      split
      rotate_left
      · rename_i h3; have h3 : ¬ (3 - (((j + 1) : Nat) : Int)) ≥ 0 := of_decide_eq_false h3
        obtain rfl : j = 3 := by omega
        conv => whnf
        clear hR2 R2
        refine R_at ?_ ?_ (hR 1 (by omega) (by omega))
        · kernel_rfl
        · kernel_rfl
      rename_i h3; have h3 : (3 - (((j + 1) : Nat) : Int)) ≥ 0 := of_decide_eq_true h3
      have e1 : IntKind.u64.wrap (IntKind.i64.wrap (8 * (3 - (((j + 1) : Nat) : Int)))) = 8 * (3 - (((j + 1) : Nat) : Int)) := by rw [IntWalk.i64_in _ (by omega), wrap64 _ (by omega) (by omega)]
      have e2 : IntKind.i64.wrap (3 - (((j + 1) : Nat) : Int) - 1) = 3 - (((j + 1 + 1) : Nat) : Int) := by rw [IntWalk.i64_in _ (by omega)]; omega
      conv => whnf
      rw [e1, decide_eq_true (show 0 ≤ 8 * (3 - (((j + 1) : Nat) : Int)) by omega)]
      conv => whnf
      refine ⟨fits_at (ys' := bsA [IntKind.u8.wrap ((vw v 0).fdiv (2 ^ min (8 * (3 - (((j + 1) : Nat) : Int))).toNat IntKind.u32.bits))]) (by kernel_rfl) (by
        show FitsA (bsA _) 1 1 (bsA (wordB (vw v 0) (j + 1))).length
        rw [bsA_length]
        exact fits_bs (by simp [wordB_len]; omega)), ?_⟩
      conv => whnf
      refine R_at ?_ ?_ (hR2 (j + 1 + 1) (by omega) (by omega))
      · rw [← e2]; kernel_rfl
      · show _ = [HO.row true 5 1 (bsA (wordB (vw v 0) (j + 1) ++ [IntKind.u8.wrap ((vw v 0).fdiv (2 ^ (8 * (3 - (j + 1)))))]))]
        rw [show 8 * (3 - (j + 1)) = min (8 * (3 - (((j + 1) : Nat) : Int))).toNat IntKind.u32.bits by show _ = min _ 32; omega, bsA_append (wordB (vw v 0) (j + 1)) [_]]
        kernel_rfl
  · conv => whnf
    refine ⟨by decide, by decide, ?_⟩
    conv => whnf
    refine aloop_at ?_ ?_ (aloop_inv (σ := Nat) (fun j => (sp 0 46 [(6, .row 0), (8, .int .u32 (vw v 1)), (9, .int .i64 (3 - (j : Nat))), (27, .agg (c8 v)), (28, .int .i64 1)], [.row true 5 1 (bsA (outN v 1 ++ wordB (vw v 1) j))]))
      (fun j => j ≤ 4) (fun j => 4 - j) ?_ N 0 (Nat.zero_le _) (by omega))
    · kernel_rfl
    · show _ = [HO.row true 5 1 (bsA (outN v 1 ++ []))]
      rw [List.append_nil]
      kernel_rfl
    rintro j hj R2 hR2
    conv => whnf
    split
    rotate_left
    · rename_i h3; have h3 : ¬ (3 - ((j : Nat) : Int)) ≥ 0 := of_decide_eq_false h3
      obtain rfl : j = 4 := by omega
      conv => whnf
      clear hR2 R2
      refine R_at ?_ ?_ (hR 2 (by omega) (by omega))
      · kernel_rfl
      · kernel_rfl
    rename_i h3; have h3 : (3 - ((j : Nat) : Int)) ≥ 0 := of_decide_eq_true h3
    have e1 : IntKind.u64.wrap (IntKind.i64.wrap (8 * (3 - ((j : Nat) : Int)))) = 8 * (3 - ((j : Nat) : Int)) := by rw [IntWalk.i64_in _ (by omega), wrap64 _ (by omega) (by omega)]
    have e2 : IntKind.i64.wrap (3 - ((j : Nat) : Int) - 1) = 3 - (((j + 1) : Nat) : Int) := by rw [IntWalk.i64_in _ (by omega)]; omega
    conv => whnf
    rw [e1, decide_eq_true (show 0 ≤ 8 * (3 - ((j : Nat) : Int)) by omega)]
    conv => whnf
    refine ⟨fits_at (ys' := bsA [IntKind.u8.wrap ((vw v 1).fdiv (2 ^ min (8 * (3 - ((j : Nat) : Int))).toNat IntKind.u32.bits))]) (by kernel_rfl) (by
      show FitsA (bsA _) 1 1 (bsA (outN v 1 ++ wordB (vw v 1) j)).length
      rw [bsA_length]
      exact fits_bs (by simp [wordB_len, outN_len]; omega)), ?_⟩
    conv => whnf
    refine R_at ?_ ?_ (hR2 (j + 1) (by omega) (by omega))
    · rw [← e2]; kernel_rfl
    · show _ = [HO.row true 5 1 (bsA (outN v 1 ++ (wordB (vw v 1) j ++ [IntKind.u8.wrap ((vw v 1).fdiv (2 ^ (8 * (3 - j))))])))]
      rw [show 8 * (3 - j) = min (8 * (3 - ((j : Nat) : Int))).toNat IntKind.u32.bits by show _ = min _ 32; omega, ← List.append_assoc, bsA_append (outN v 1 ++ wordB (vw v 1) j) [_]]
      kernel_rfl
  · conv => whnf
    refine ⟨by decide, by decide, ?_⟩
    conv => whnf
    refine aloop_at ?_ ?_ (aloop_inv (σ := Nat) (fun j => (sp 0 46 [(6, .row 0), (8, .int .u32 (vw v 2)), (9, .int .i64 (3 - (j : Nat))), (27, .agg (c8 v)), (28, .int .i64 2)], [.row true 5 1 (bsA (outN v 2 ++ wordB (vw v 2) j))]))
      (fun j => j ≤ 4) (fun j => 4 - j) ?_ N 0 (Nat.zero_le _) (by omega))
    · kernel_rfl
    · show _ = [HO.row true 5 1 (bsA (outN v 2 ++ []))]
      rw [List.append_nil]
      kernel_rfl
    rintro j hj R2 hR2
    conv => whnf
    split
    rotate_left
    · rename_i h3; have h3 : ¬ (3 - ((j : Nat) : Int)) ≥ 0 := of_decide_eq_false h3
      obtain rfl : j = 4 := by omega
      conv => whnf
      clear hR2 R2
      refine R_at ?_ ?_ (hR 3 (by omega) (by omega))
      · kernel_rfl
      · kernel_rfl
    rename_i h3; have h3 : (3 - ((j : Nat) : Int)) ≥ 0 := of_decide_eq_true h3
    have e1 : IntKind.u64.wrap (IntKind.i64.wrap (8 * (3 - ((j : Nat) : Int)))) = 8 * (3 - ((j : Nat) : Int)) := by rw [IntWalk.i64_in _ (by omega), wrap64 _ (by omega) (by omega)]
    have e2 : IntKind.i64.wrap (3 - ((j : Nat) : Int) - 1) = 3 - (((j + 1) : Nat) : Int) := by rw [IntWalk.i64_in _ (by omega)]; omega
    conv => whnf
    rw [e1, decide_eq_true (show 0 ≤ 8 * (3 - ((j : Nat) : Int)) by omega)]
    conv => whnf
    refine ⟨fits_at (ys' := bsA [IntKind.u8.wrap ((vw v 2).fdiv (2 ^ min (8 * (3 - ((j : Nat) : Int))).toNat IntKind.u32.bits))]) (by kernel_rfl) (by
      show FitsA (bsA _) 1 1 (bsA (outN v 2 ++ wordB (vw v 2) j)).length
      rw [bsA_length]
      exact fits_bs (by simp [wordB_len, outN_len]; omega)), ?_⟩
    conv => whnf
    refine R_at ?_ ?_ (hR2 (j + 1) (by omega) (by omega))
    · rw [← e2]; kernel_rfl
    · show _ = [HO.row true 5 1 (bsA (outN v 2 ++ (wordB (vw v 2) j ++ [IntKind.u8.wrap ((vw v 2).fdiv (2 ^ (8 * (3 - j))))])))]
      rw [show 8 * (3 - j) = min (8 * (3 - ((j : Nat) : Int))).toNat IntKind.u32.bits by show _ = min _ 32; omega, ← List.append_assoc, bsA_append (outN v 2 ++ wordB (vw v 2) j) [_]]
      kernel_rfl
  · conv => whnf
    refine ⟨by decide, by decide, ?_⟩
    conv => whnf
    refine aloop_at ?_ ?_ (aloop_inv (σ := Nat) (fun j => (sp 0 46 [(6, .row 0), (8, .int .u32 (vw v 3)), (9, .int .i64 (3 - (j : Nat))), (27, .agg (c8 v)), (28, .int .i64 3)], [.row true 5 1 (bsA (outN v 3 ++ wordB (vw v 3) j))]))
      (fun j => j ≤ 4) (fun j => 4 - j) ?_ N 0 (Nat.zero_le _) (by omega))
    · kernel_rfl
    · show _ = [HO.row true 5 1 (bsA (outN v 3 ++ []))]
      rw [List.append_nil]
      kernel_rfl
    rintro j hj R2 hR2
    conv => whnf
    split
    rotate_left
    · rename_i h3; have h3 : ¬ (3 - ((j : Nat) : Int)) ≥ 0 := of_decide_eq_false h3
      obtain rfl : j = 4 := by omega
      conv => whnf
      clear hR2 R2
      refine R_at ?_ ?_ (hR 4 (by omega) (by omega))
      · kernel_rfl
      · kernel_rfl
    rename_i h3; have h3 : (3 - ((j : Nat) : Int)) ≥ 0 := of_decide_eq_true h3
    have e1 : IntKind.u64.wrap (IntKind.i64.wrap (8 * (3 - ((j : Nat) : Int)))) = 8 * (3 - ((j : Nat) : Int)) := by rw [IntWalk.i64_in _ (by omega), wrap64 _ (by omega) (by omega)]
    have e2 : IntKind.i64.wrap (3 - ((j : Nat) : Int) - 1) = 3 - (((j + 1) : Nat) : Int) := by rw [IntWalk.i64_in _ (by omega)]; omega
    conv => whnf
    rw [e1, decide_eq_true (show 0 ≤ 8 * (3 - ((j : Nat) : Int)) by omega)]
    conv => whnf
    refine ⟨fits_at (ys' := bsA [IntKind.u8.wrap ((vw v 3).fdiv (2 ^ min (8 * (3 - ((j : Nat) : Int))).toNat IntKind.u32.bits))]) (by kernel_rfl) (by
      show FitsA (bsA _) 1 1 (bsA (outN v 3 ++ wordB (vw v 3) j)).length
      rw [bsA_length]
      exact fits_bs (by simp [wordB_len, outN_len]; omega)), ?_⟩
    conv => whnf
    refine R_at ?_ ?_ (hR2 (j + 1) (by omega) (by omega))
    · rw [← e2]; kernel_rfl
    · show _ = [HO.row true 5 1 (bsA (outN v 3 ++ (wordB (vw v 3) j ++ [IntKind.u8.wrap ((vw v 3).fdiv (2 ^ (8 * (3 - j))))])))]
      rw [show 8 * (3 - j) = min (8 * (3 - ((j : Nat) : Int))).toNat IntKind.u32.bits by show _ = min _ 32; omega, ← List.append_assoc, bsA_append (outN v 3 ++ wordB (vw v 3) j) [_]]
      kernel_rfl
  · conv => whnf
    refine ⟨by decide, by decide, ?_⟩
    conv => whnf
    refine aloop_at ?_ ?_ (aloop_inv (σ := Nat) (fun j => (sp 0 46 [(6, .row 0), (8, .int .u32 (vw v 4)), (9, .int .i64 (3 - (j : Nat))), (27, .agg (c8 v)), (28, .int .i64 4)], [.row true 5 1 (bsA (outN v 4 ++ wordB (vw v 4) j))]))
      (fun j => j ≤ 4) (fun j => 4 - j) ?_ N 0 (Nat.zero_le _) (by omega))
    · kernel_rfl
    · show _ = [HO.row true 5 1 (bsA (outN v 4 ++ []))]
      rw [List.append_nil]
      kernel_rfl
    rintro j hj R2 hR2
    conv => whnf
    split
    rotate_left
    · rename_i h3; have h3 : ¬ (3 - ((j : Nat) : Int)) ≥ 0 := of_decide_eq_false h3
      obtain rfl : j = 4 := by omega
      conv => whnf
      clear hR2 R2
      refine R_at ?_ ?_ (hR 5 (by omega) (by omega))
      · kernel_rfl
      · kernel_rfl
    rename_i h3; have h3 : (3 - ((j : Nat) : Int)) ≥ 0 := of_decide_eq_true h3
    have e1 : IntKind.u64.wrap (IntKind.i64.wrap (8 * (3 - ((j : Nat) : Int)))) = 8 * (3 - ((j : Nat) : Int)) := by rw [IntWalk.i64_in _ (by omega), wrap64 _ (by omega) (by omega)]
    have e2 : IntKind.i64.wrap (3 - ((j : Nat) : Int) - 1) = 3 - (((j + 1) : Nat) : Int) := by rw [IntWalk.i64_in _ (by omega)]; omega
    conv => whnf
    rw [e1, decide_eq_true (show 0 ≤ 8 * (3 - ((j : Nat) : Int)) by omega)]
    conv => whnf
    refine ⟨fits_at (ys' := bsA [IntKind.u8.wrap ((vw v 4).fdiv (2 ^ min (8 * (3 - ((j : Nat) : Int))).toNat IntKind.u32.bits))]) (by kernel_rfl) (by
      show FitsA (bsA _) 1 1 (bsA (outN v 4 ++ wordB (vw v 4) j)).length
      rw [bsA_length]
      exact fits_bs (by simp [wordB_len, outN_len]; omega)), ?_⟩
    conv => whnf
    refine R_at ?_ ?_ (hR2 (j + 1) (by omega) (by omega))
    · rw [← e2]; kernel_rfl
    · show _ = [HO.row true 5 1 (bsA (outN v 4 ++ (wordB (vw v 4) j ++ [IntKind.u8.wrap ((vw v 4).fdiv (2 ^ (8 * (3 - j))))])))]
      rw [show 8 * (3 - j) = min (8 * (3 - ((j : Nat) : Int))).toNat IntKind.u32.bits by show _ = min _ 32; omega, ← List.append_assoc, bsA_append (outN v 4 ++ wordB (vw v 4) j) [_]]
      kernel_rfl
  · conv => whnf
    refine ⟨by decide, by decide, ?_⟩
    conv => whnf
    refine aloop_at ?_ ?_ (aloop_inv (σ := Nat) (fun j => (sp 0 46 [(6, .row 0), (8, .int .u32 (vw v 5)), (9, .int .i64 (3 - (j : Nat))), (27, .agg (c8 v)), (28, .int .i64 5)], [.row true 5 1 (bsA (outN v 5 ++ wordB (vw v 5) j))]))
      (fun j => j ≤ 4) (fun j => 4 - j) ?_ N 0 (Nat.zero_le _) (by omega))
    · kernel_rfl
    · show _ = [HO.row true 5 1 (bsA (outN v 5 ++ []))]
      rw [List.append_nil]
      kernel_rfl
    rintro j hj R2 hR2
    conv => whnf
    split
    rotate_left
    · rename_i h3; have h3 : ¬ (3 - ((j : Nat) : Int)) ≥ 0 := of_decide_eq_false h3
      obtain rfl : j = 4 := by omega
      conv => whnf
      clear hR2 R2
      refine R_at ?_ ?_ (hR 6 (by omega) (by omega))
      · kernel_rfl
      · kernel_rfl
    rename_i h3; have h3 : (3 - ((j : Nat) : Int)) ≥ 0 := of_decide_eq_true h3
    have e1 : IntKind.u64.wrap (IntKind.i64.wrap (8 * (3 - ((j : Nat) : Int)))) = 8 * (3 - ((j : Nat) : Int)) := by rw [IntWalk.i64_in _ (by omega), wrap64 _ (by omega) (by omega)]
    have e2 : IntKind.i64.wrap (3 - ((j : Nat) : Int) - 1) = 3 - (((j + 1) : Nat) : Int) := by rw [IntWalk.i64_in _ (by omega)]; omega
    conv => whnf
    rw [e1, decide_eq_true (show 0 ≤ 8 * (3 - ((j : Nat) : Int)) by omega)]
    conv => whnf
    refine ⟨fits_at (ys' := bsA [IntKind.u8.wrap ((vw v 5).fdiv (2 ^ min (8 * (3 - ((j : Nat) : Int))).toNat IntKind.u32.bits))]) (by kernel_rfl) (by
      show FitsA (bsA _) 1 1 (bsA (outN v 5 ++ wordB (vw v 5) j)).length
      rw [bsA_length]
      exact fits_bs (by simp [wordB_len, outN_len]; omega)), ?_⟩
    conv => whnf
    refine R_at ?_ ?_ (hR2 (j + 1) (by omega) (by omega))
    · rw [← e2]; kernel_rfl
    · show _ = [HO.row true 5 1 (bsA (outN v 5 ++ (wordB (vw v 5) j ++ [IntKind.u8.wrap ((vw v 5).fdiv (2 ^ (8 * (3 - j))))])))]
      rw [show 8 * (3 - j) = min (8 * (3 - ((j : Nat) : Int))).toNat IntKind.u32.bits by show _ = min _ 32; omega, ← List.append_assoc, bsA_append (outN v 5 ++ wordB (vw v 5) j) [_]]
      kernel_rfl
  · conv => whnf
    refine ⟨by decide, by decide, ?_⟩
    conv => whnf
    refine aloop_at ?_ ?_ (aloop_inv (σ := Nat) (fun j => (sp 0 46 [(6, .row 0), (8, .int .u32 (vw v 6)), (9, .int .i64 (3 - (j : Nat))), (27, .agg (c8 v)), (28, .int .i64 6)], [.row true 5 1 (bsA (outN v 6 ++ wordB (vw v 6) j))]))
      (fun j => j ≤ 4) (fun j => 4 - j) ?_ N 0 (Nat.zero_le _) (by omega))
    · kernel_rfl
    · show _ = [HO.row true 5 1 (bsA (outN v 6 ++ []))]
      rw [List.append_nil]
      kernel_rfl
    rintro j hj R2 hR2
    conv => whnf
    split
    rotate_left
    · rename_i h3; have h3 : ¬ (3 - ((j : Nat) : Int)) ≥ 0 := of_decide_eq_false h3
      obtain rfl : j = 4 := by omega
      conv => whnf
      clear hR2 R2
      refine R_at ?_ ?_ (hR 7 (by omega) (by omega))
      · kernel_rfl
      · kernel_rfl
    rename_i h3; have h3 : (3 - ((j : Nat) : Int)) ≥ 0 := of_decide_eq_true h3
    have e1 : IntKind.u64.wrap (IntKind.i64.wrap (8 * (3 - ((j : Nat) : Int)))) = 8 * (3 - ((j : Nat) : Int)) := by rw [IntWalk.i64_in _ (by omega), wrap64 _ (by omega) (by omega)]
    have e2 : IntKind.i64.wrap (3 - ((j : Nat) : Int) - 1) = 3 - (((j + 1) : Nat) : Int) := by rw [IntWalk.i64_in _ (by omega)]; omega
    conv => whnf
    rw [e1, decide_eq_true (show 0 ≤ 8 * (3 - ((j : Nat) : Int)) by omega)]
    conv => whnf
    refine ⟨fits_at (ys' := bsA [IntKind.u8.wrap ((vw v 6).fdiv (2 ^ min (8 * (3 - ((j : Nat) : Int))).toNat IntKind.u32.bits))]) (by kernel_rfl) (by
      show FitsA (bsA _) 1 1 (bsA (outN v 6 ++ wordB (vw v 6) j)).length
      rw [bsA_length]
      exact fits_bs (by simp [wordB_len, outN_len]; omega)), ?_⟩
    conv => whnf
    refine R_at ?_ ?_ (hR2 (j + 1) (by omega) (by omega))
    · rw [← e2]; kernel_rfl
    · show _ = [HO.row true 5 1 (bsA (outN v 6 ++ (wordB (vw v 6) j ++ [IntKind.u8.wrap ((vw v 6).fdiv (2 ^ (8 * (3 - j))))])))]
      rw [show 8 * (3 - j) = min (8 * (3 - ((j : Nat) : Int))).toNat IntKind.u32.bits by show _ = min _ 32; omega, ← List.append_assoc, bsA_append (outN v 6 ++ wordB (vw v 6) j) [_]]
      kernel_rfl
  · conv => whnf
    refine ⟨by decide, by decide, ?_⟩
    conv => whnf
    refine aloop_at ?_ ?_ (aloop_inv (σ := Nat) (fun j => (sp 0 46 [(6, .row 0), (8, .int .u32 (vw v 7)), (9, .int .i64 (3 - (j : Nat))), (27, .agg (c8 v)), (28, .int .i64 7)], [.row true 5 1 (bsA (outN v 7 ++ wordB (vw v 7) j))]))
      (fun j => j ≤ 4) (fun j => 4 - j) ?_ N 0 (Nat.zero_le _) (by omega))
    · kernel_rfl
    · show _ = [HO.row true 5 1 (bsA (outN v 7 ++ []))]
      rw [List.append_nil]
      kernel_rfl
    rintro j hj R2 hR2
    conv => whnf
    split
    rotate_left
    · rename_i h3; have h3 : ¬ (3 - ((j : Nat) : Int)) ≥ 0 := of_decide_eq_false h3
      obtain rfl : j = 4 := by omega
      conv => whnf
      clear hR2 R2
      refine R_at ?_ ?_ (hR 8 (by omega) (by omega))
      · kernel_rfl
      · kernel_rfl
    rename_i h3; have h3 : (3 - ((j : Nat) : Int)) ≥ 0 := of_decide_eq_true h3
    have e1 : IntKind.u64.wrap (IntKind.i64.wrap (8 * (3 - ((j : Nat) : Int)))) = 8 * (3 - ((j : Nat) : Int)) := by rw [IntWalk.i64_in _ (by omega), wrap64 _ (by omega) (by omega)]
    have e2 : IntKind.i64.wrap (3 - ((j : Nat) : Int) - 1) = 3 - (((j + 1) : Nat) : Int) := by rw [IntWalk.i64_in _ (by omega)]; omega
    conv => whnf
    rw [e1, decide_eq_true (show 0 ≤ 8 * (3 - ((j : Nat) : Int)) by omega)]
    conv => whnf
    refine ⟨fits_at (ys' := bsA [IntKind.u8.wrap ((vw v 7).fdiv (2 ^ min (8 * (3 - ((j : Nat) : Int))).toNat IntKind.u32.bits))]) (by kernel_rfl) (by
      show FitsA (bsA _) 1 1 (bsA (outN v 7 ++ wordB (vw v 7) j)).length
      rw [bsA_length]
      exact fits_bs (by simp [wordB_len, outN_len]; omega)), ?_⟩
    conv => whnf
    refine R_at ?_ ?_ (hR2 (j + 1) (by omega) (by omega))
    · rw [← e2]; kernel_rfl
    · show _ = [HO.row true 5 1 (bsA (outN v 7 ++ (wordB (vw v 7) j ++ [IntKind.u8.wrap ((vw v 7).fdiv (2 ^ (8 * (3 - j))))])))]
      rw [show 8 * (3 - j) = min (8 * (3 - ((j : Nat) : Int))).toNat IntKind.u32.bits by show _ = min _ 32; omega, ← List.append_assoc, bsA_append (outN v 7 ++ wordB (vw v 7) j) [_]]
      kernel_rfl
  · conv => whnf
    refine Eq.mp ?_ hQ
    kernel_rfl

set_option maxRecDepth 100000 in
theorem s123 {T : Tab} (hT : TGood Tryz.prog T) : SGood Tryz.prog 162 (pureT g123) := pureT_good g123_det fun args Q h => by
  unfold g123 at h
  split at h
  · obtain ⟨l, rfl, hb, hl, hQ⟩ := h
    have t1 := ext_good hT (s142 hT)
    exact body_pure (ext_good t1 (s143 t1)) mixedT Tryz.func162 (entersOf Tryz.func162 (by kernel_rfl) rfl) (l.length + 73) (f123_ok l hb hl T Q hQ _ (by omega))
  · exact h.elim
end Go.Abs

/-
bits.RotateLeft32, sha.ror, sha.start are what they come to; words of two writings are one.
-/
namespace Go.Abs
open Go Go.Proofs

theorem bits_or_comm (k : IntKind) (a b : Int) : bits .or k a b = bits .or k b a := by
  simp only [bits, BitVec.or_comm]
theorem neg_and : ∀ n : Fin 32, 0 < n.val → bits .and .u64 (IntKind.u64.wrap (IntKind.i64.wrap (0 - (n.val : Int)))) 31 = 32 - (n.val : Int) := by decide
def g158 : GSpec := fun args K => match args with
  | [.int .u32 x, .int .i64 k] => ∃ n : Nat, (0 < n ∧ n < 32) ∧ k = IntKind.i64.wrap (0 - (n : Int)) ∧ K (.ret (.int .u32 (rotr x n)))
  | _ => False
theorem g158_det (args : List AV) : Det (g158 args) := by
  unfold g158
  repeat' (first | exact Det.no | exact Det.at _ | refine Det.and ?_ | refine Det.ex fun _ => ?_ | refine Det.cond ?_ ?_ | split)
theorem g158_flat (args : List AV) (o : AOut) (h : g158 args (· = o)) : flatO o = true := by
  unfold g158 at h
  split at h
  · obtain ⟨_, _, _, rfl⟩ := h; rfl
  · exact h.elim

set_option maxRecDepth 100000 in
set_option maxHeartbeats 4000000 in
theorem f158_ok (x : Int) (n : Nat) (h0 : 0 < n) (h1 : n < 32) (T : Tab) (Q : AOut → Prop) (hQ : Q (.ret (.int .u32 (rotr x n)))) (N : Nat) :
    abody Tryz.prog T 0 N Tryz.f181 [.int .u32 x, .int .i64 (IntKind.i64.wrap (0 - (n : Int)))] [] (fun out Hs => Q (frzO Hs out)) := by
  have e1 := neg_and ⟨n, h1⟩ h0
  have e2 : IntKind.u64.wrap (32 - (32 - (n : Int))) = n := by rw [wrap64 _ (by omega) (by omega)]; omega
  dsimp only at e1
  conv => whnf
  try rw [e1]
  try rw [decide_eq_true (show 0 ≤ 32 - (n : Int) by omega)]
  try (conv => whnf)
  rw [e2, decide_eq_true (show 0 ≤ (n : Int) by omega)]
  conv => whnf
  have hQ' : Q (.ret (.int .u32 (bits .or .u32 (IntKind.u32.wrap (x * 2 ^ min (32 - (n : Int)).toNat IntKind.u32.bits)) (x.fdiv (2 ^ min (n : Int).toNat IntKind.u32.bits))))) := by
    rw [bits_or_comm, show min (n : Int).toNat IntKind.u32.bits = n by show min _ 32 = _; omega, show min (32 - (n : Int)).toNat IntKind.u32.bits = 32 - n by show min _ 32 = _; omega]
    exact hQ
  refine Eq.mp ?_ hQ'
  kernel_rfl

set_option maxRecDepth 100000 in
theorem s158 {T : Tab} (hT : TGood Tryz.prog T) : SGood Tryz.prog 181 (flatT g158) := flatT_good g158_det g158_flat fun args Q h => by
  unfold g158 at h
  split at h
  · obtain ⟨n, h1, rfl, hQ⟩ := h
    exact body_pure hT mixedT Tryz.func181 (entersOf Tryz.func181 (by kernel_rfl) rfl) 0 (f158_ok _ n h1.1 h1.2 T Q hQ 0)
  · exact h.elim

set_option maxRecDepth 100000 in
set_option maxHeartbeats 4000000 in
theorem f157_ok (x n : Int) (h0 : 0 < n) (h1 : n < 32) (T : Tab) (Q : AOut → Prop) (hQ : Q (.ret (.int .u32 (rotr x n.toNat)))) (N : Nat) :
    abody Tryz.prog (ext T 181 (flatT g158)) 0 N Tryz.f179 [.int .u32 x, .int .i64 n] [] (fun out Hs => Q (frzO Hs out)) := by
  obtain ⟨m, rfl⟩ := Int.eq_ofNat_of_zero_le (show 0 ≤ n by omega)
  conv => whnf
  refine ⟨m, by omega, rfl, ?_⟩
  conv => whnf
  refine Eq.mp ?_ hQ
  kernel_rfl
set_option maxRecDepth 100000 in
theorem s157 {T : Tab} (hT : TGood Tryz.prog T) : SGood Tryz.prog 179 (flatT g152) := flatT_good g152_det g152_flat fun args Q h => by
  unfold g152 at h
  split at h
  · obtain ⟨h1, hQ⟩ := h
    exact body_pure (ext_good hT (s158 hT)) mixedT Tryz.func179 (entersOf Tryz.func179 (by kernel_rfl) rfl) 0 (f157_ok _ _ h1.1 h1.2 T Q hQ 0)
  · exact h.elim

def g154 : GSpec := fun args K => match args with
  | [] => K (.ret (.agg (c8 h0)))
  | _ => False
theorem g154_det (args : List AV) : Det (g154 args) := by
  unfold g154
  repeat' (first | exact Det.no | exact Det.at _ | refine Det.and ?_ | refine Det.ex fun _ => ?_ | refine Det.cond ?_ ?_ | split)
theorem g154_flat (args : List AV) (o : AOut) (h : g154 args (· = o)) : flatO o = true := by
  unfold g154 at h
  split at h
  · cases h; rfl
  · exact h.elim
set_option maxRecDepth 100000 in
theorem f154_ok (T : Tab) (Q : AOut → Prop) (hQ : Q (.ret (.agg (c8 h0)))) (N : Nat) : abody Tryz.prog T 0 N Tryz.f174 [] [] (fun out Hs => Q (frzO Hs out)) := by
  conv => whnf
  refine Eq.mp ?_ hQ
  kernel_rfl
set_option maxRecDepth 100000 in
theorem s154 {T : Tab} (hT : TGood Tryz.prog T) : SGood Tryz.prog 174 (flatT g154) := flatT_good g154_det g154_flat fun args Q h => by
  unfold g154 at h
  split at h
  · exact body_pure hT mixedT Tryz.func174 (entersOf Tryz.func174 (by kernel_rfl) rfl) 0 (f154_ok T Q h 0)
  · exact h.elim

/-! ### Words -/
theorem ofInt_bits (op : BinOp) (a b : Int) (f : BitVec 32 → BitVec 32 → BitVec 32) (h : bits op .u32 a b = IntKind.u32.wrap ((f (BitVec.ofInt 32 a) (BitVec.ofInt 32 b)).toNat : Int)) :
    BitVec.ofInt 32 (bits op .u32 a b) = f (BitVec.ofInt 32 a) (BitVec.ofInt 32 b) := by
  rw [h, wrap32]
  have := (f (BitVec.ofInt 32 a) (BitVec.ofInt 32 b)).isLt
  rw [Int.emod_eq_of_lt (by omega) (by omega), BitVec.ofInt_natCast, BitVec.ofNat_toNat, BitVec.setWidth_eq]
theorem oi_and (a b : Int) : BitVec.ofInt 32 (bits .and .u32 a b) = BitVec.ofInt 32 a &&& BitVec.ofInt 32 b := ofInt_bits .and a b (· &&& ·) rfl
theorem oi_or (a b : Int) : BitVec.ofInt 32 (bits .or .u32 a b) = BitVec.ofInt 32 a ||| BitVec.ofInt 32 b := ofInt_bits .or a b (· ||| ·) rfl
theorem oi_xor (a b : Int) : BitVec.ofInt 32 (bits .xor .u32 a b) = BitVec.ofInt 32 a ^^^ BitVec.ofInt 32 b := ofInt_bits .xor a b (· ^^^ ·) rfl
theorem bits_ext {op op' : BinOp} {a b c d : Int} (f g : BitVec 32 → BitVec 32 → BitVec 32) (h : bits op .u32 a b = IntKind.u32.wrap ((f (BitVec.ofInt 32 a) (BitVec.ofInt 32 b)).toNat : Int)) (k : bits op' .u32 c d = IntKind.u32.wrap ((g (BitVec.ofInt 32 c) (BitVec.ofInt 32 d)).toNat : Int))
    (e : f (BitVec.ofInt 32 a) (BitVec.ofInt 32 b) = g (BitVec.ofInt 32 c) (BitVec.ofInt 32 d)) : bits op .u32 a b = bits op' .u32 c d := by rw [h, k, e]
theorem ch_eq (e f g : Int) : bits .xor .u32 (bits .and .u32 e f) (bits .and .u32 (bits .xor .u32 4294967295 e) g) = chR e f g := by
  refine bits_ext (· ^^^ ·) (· ||| ·) rfl rfl ?_
  simp only [oi_and, oi_xor]
  generalize BitVec.ofInt 32 e = x
  generalize BitVec.ofInt 32 f = y
  generalize BitVec.ofInt 32 g = z
  ext i hi
  have h1 : (BitVec.ofInt 32 4294967295)[i] = true := by
    have : BitVec.ofInt 32 4294967295 = BitVec.allOnes 32 := by decide
    rw [this, BitVec.getElem_allOnes]
  simp only [BitVec.getElem_xor, BitVec.getElem_and, BitVec.getElem_or, h1]
  cases x[i] <;> cases y[i] <;> cases z[i] <;> rfl
theorem maj_eq (a b c : Int) : bits .xor .u32 (bits .xor .u32 (bits .and .u32 a b) (bits .and .u32 a c)) (bits .and .u32 b c) = majR a b c := by
  refine bits_ext (· ^^^ ·) (· ||| ·) rfl rfl ?_
  simp only [oi_and, oi_xor, oi_or]
  generalize BitVec.ofInt 32 a = x
  generalize BitVec.ofInt 32 b = y
  generalize BitVec.ofInt 32 c = z
  ext i hi
  simp
  cases x[i] <;> cases y[i] <;> cases z[i] <;> rfl
end Go.Abs

/-
(*sha.state).block is what it comes to.
-/
namespace Go.Abs
open Go Go.Proofs

theorem u32_or_nat (a b : Nat) (ha : a < 4294967296) (hb : b < 4294967296) : bits .or .u32 (a : Int) (b : Int) = ((a ||| b : Nat) : Int) := by
  have hx : a ||| b < 2 ^ 32 := Nat.or_lt_two_pow (by omega) (by omega)
  have h1 : (BitVec.ofInt 32 (a : Int)).toNat = a := by
    rw [BitVec.ofInt_natCast, BitVec.toNat_ofNat]; exact Nat.mod_eq_of_lt (by omega)
  have h2 : (BitVec.ofInt 32 (b : Int)).toNat = b := by
    rw [BitVec.ofInt_natCast, BitVec.toNat_ofNat]; exact Nat.mod_eq_of_lt (by omega)
  show IntKind.u32.wrap ((BitVec.ofInt 32 (a : Int) ||| BitVec.ofInt 32 (b : Int)).toNat : Int) = _
  rw [BitVec.toNat_or, h1, h2, wrap32]
  omega
def wordO (a b c d : Int) : Int := bits .or .u32 (bits .or .u32 (bits .or .u32 (w32 (w32 a * 2 ^ 24)) (w32 (w32 b * 2 ^ 16))) (w32 (w32 c * 2 ^ 8))) (w32 d)
theorem word_eq {a b c d : Int} (ha : 0 ≤ a ∧ a < 256) (hb : 0 ≤ b ∧ b < 256) (hc : 0 ≤ c ∧ c < 256) (hd : 0 ≤ d ∧ d < 256) : wordO a b c d = word4 a b c d := by
  obtain ⟨x, rfl⟩ := Int.eq_ofNat_of_zero_le ha.1
  obtain ⟨y, rfl⟩ := Int.eq_ofNat_of_zero_le hb.1
  obtain ⟨z, rfl⟩ := Int.eq_ofNat_of_zero_le hc.1
  obtain ⟨u, rfl⟩ := Int.eq_ofNat_of_zero_le hd.1
  unfold wordO w32 word4
  simp only [wrap32]
  rw [show ((x : Int) % 4294967296 * 2 ^ 24) % 4294967296 = ((x * 2 ^ 24 : Nat) : Int) by omega, show ((y : Int) % 4294967296 * 2 ^ 16) % 4294967296 = ((y * 2 ^ 16 : Nat) : Int) by omega,
    show ((z : Int) % 4294967296 * 2 ^ 8) % 4294967296 = ((z * 2 ^ 8 : Nat) : Int) by omega, show (u : Int) % 4294967296 = ((u : Nat) : Int) by omega]
  have e1 : x * 2 ^ 24 ||| y * 2 ^ 16 = (x * 256 + y) * 2 ^ 16 := by
    rw [Nat.or_comm, or_disj (y * 2 ^ 16) x 24 (by omega)]; omega
  have e2 : (x * 256 + y) * 2 ^ 16 ||| z * 2 ^ 8 = ((x * 256 + y) * 256 + z) * 2 ^ 8 := by
    rw [Nat.or_comm, or_disj (z * 2 ^ 8) (x * 256 + y) 16 (by omega)]; omega
  have e3 : ((x * 256 + y) * 256 + z) * 2 ^ 8 ||| u = (x * 256 + y) * 256 * 256 + z * 256 + u := by
    rw [Nat.or_comm, or_disj u ((x * 256 + y) * 256 + z) 8 (by omega)]; omega
  rw [u32_or_nat _ _ (by omega) (by omega), e1, u32_or_nat _ _ (by omega) (by omega), e2, u32_or_nat _ _ (by omega) (by omega), e3]
  omega
def chO (e f g : Int) : Int := bits .xor .u32 (bits .and .u32 e f) (bits .and .u32 (bits .xor .u32 4294967295 e) g)
def majO (a b c : Int) : Int := bits .xor .u32 (bits .xor .u32 (bits .and .u32 a b) (bits .and .u32 a c)) (bits .and .u32 b c)
def oT1 (k w : Int) (v : V8) : Int := w32 (w32 (w32 (w32 (v.h + bS1 v.e) + chO v.e v.f v.g) + k) + w)
def oT2 (v : V8) : Int := w32 (bS0 v.a + majO v.a v.b v.c)
def rndO (k w : Int) (v : V8) : V8 := ⟨w32 (oT1 k w v + oT2 v), v.a, v.b, v.c, w32 (v.d + oT1 k w v), v.e, v.f, v.g⟩
theorem rnd_eq (k w : Int) (v : V8) : rnd k w v = rndO k w v := by
  unfold rnd rndO oT1 oT2 rT1 rT2 chO majO
  rw [ch_eq, maj_eq]
theorem bs_get {l : List Int} {i : Nat} (h : i < l.length) : (bsA l)[((i : Nat) : Int).toNat]? = some [.int .u8 (l.getD i 0)] := by
  rw [Int.toNat_natCast, List.getD_eq_getElem?_getD]
  simp [bsA, List.getElem?_map, List.getElem?_eq_getElem h]
def T155 (T : Tab) : Tab := ext T 179 (flatT g152)

set_option maxRecDepth 100000 in
set_option maxHeartbeats 32000000 in
theorem f155_A (s : V8) (l : List Int) (hb : okB l) (h64 : 64 ≤ l.length ∧ l.length ≤ 1099511627776) (T : Tab) (Q : AOut → Heap → Prop) (hQ : Q (.ret (.tuple [])) [.var (c8 (blk s l))]) (N : Nat) (hN : 64 < N) :
    abody Tryz.prog (T155 T) 1 N Tryz.f175 [.ptr 0 0, .slice (bsA l)] [.var (c8 s)] Q := by
  have hl : (bsA l).length = l.length := bsA_length l
  conv => whnf
  refine aloop_at ?_ ?_ (aloop_inv (σ := Nat) (fun t => ((sp 0 187 [(0, .ptr 0 0), (1, .slice (bsA l)), (4, .ptr 1 0), (5, .ptr 2 0), (17, .int .i64 (t : Nat))]), [.var (c8 s), .var (a64 kF), .var (a64 (wordsN l t))]))
    (fun t => t ≤ 64) (fun t => 64 - t) ?_ N 0 (Nat.zero_le _) (by omega))
  · kernel_rfl
  · kernel_rfl
  rintro t ht R hR
  conv => whnf
  split
  · rename_i h2; have h2 : (t : Int) < 64 := of_decide_eq_true h2
    have hi1 : IntKind.i64.wrap ((t : Int) + 1) = ((t + 1 : Nat) : Int) := by rw [IntWalk.i64_in _ (by omega)]; omega
    conv => whnf
    split
    · rename_i h3; have h3 : (t : Int) < 16 := of_decide_eq_true h3
      have b0 : IntKind.i64.wrap (4 * (t : Int)) = ((4 * t : Nat) : Int) := by rw [IntWalk.i64_in _ (by omega)]; omega
      have b1 : IntKind.i64.wrap (IntKind.i64.wrap (4 * (t : Int)) + 1) = ((4 * t + 1 : Nat) : Int) := by rw [b0, IntWalk.i64_in _ (by omega)]; omega
      have b2 : IntKind.i64.wrap (IntKind.i64.wrap (4 * (t : Int)) + 2) = ((4 * t + 2 : Nat) : Int) := by rw [b0, IntWalk.i64_in _ (by omega)]; omega
      have b3 : IntKind.i64.wrap (IntKind.i64.wrap (4 * (t : Int)) + 3) = ((4 * t + 3 : Nat) : Int) := by rw [b0, IntWalk.i64_in _ (by omega)]; omega
      conv => whnf
      refine ⟨[35], ?_⟩
      conv => whnf
      rw [b0]
      refine ⟨by omega, by rw [hl]; omega, _, bs_get (by omega), by kernel_rfl, ?_⟩
      conv => whnf
      rw [b1]
      refine ⟨by omega, by rw [hl]; omega, _, bs_get (by omega), by kernel_rfl, ?_⟩
      conv => whnf
      rw [b2]
      refine ⟨by omega, by rw [hl]; omega, _, bs_get (by omega), by kernel_rfl, ?_⟩
      conv => whnf
      rw [b3]
      refine ⟨by omega, by rw [hl]; omega, _, bs_get (by omega), by kernel_rfl, ?_⟩
      conv => whnf
      refine ⟨by omega, by show (t : Int) < 64; omega, ?_⟩
      conv => whnf
      refine dec_true _ ⟨by kernel_rfl, by kernel_rfl, ?_⟩ ?_
      · show 0 + (t : Int).toNat * 1 + 1 ≤ 64
        omega
      conv => whnf
      refine force_over (a64 (wordsN l (t + 1))) ?_ ?_
      · refine Eq.trans (b := overAt (a64 (wordsN l t)) (0 + (t : Int).toNat * 1) [.int .u32 (wordO (l.getD (4 * t) 0) (l.getD (4 * t + 1) 0) (l.getD (4 * t + 2) 0) (l.getD (4 * t + 3) 0))]) (by kernel_rfl) ?_
        rw [word_eq (okB_getD hb _) (okB_getD hb _) (okB_getD hb _) (okB_getD hb _), show 0 + (t : Int).toNat * 1 = t by omega, a64_over _ (by omega)]
        congr 1
        funext j
        simp only [wordsN, if_pos (show t < 16 by omega)]
        rfl
      conv => whnf
      refine R_at ?_ ?_ (hR (t + 1) (by omega) (by omega))
      · rw [← hi1]; kernel_rfl
      · kernel_rfl
    rename_i h3; have h3 : ¬ (t : Int) < 16 := of_decide_eq_false h3
    have w15 : IntKind.i64.wrap ((t : Int) - 15) = ((t - 15 : Nat) : Int) := by rw [IntWalk.i64_in _ (by omega)]; omega
    have w2 : IntKind.i64.wrap ((t : Int) - 2) = ((t - 2 : Nat) : Int) := by rw [IntWalk.i64_in _ (by omega)]; omega
    have w7 : IntKind.i64.wrap ((t : Int) - 7) = ((t - 7 : Nat) : Int) := by rw [IntWalk.i64_in _ (by omega)]; omega
    have w16 : IntKind.i64.wrap ((t : Int) - 16) = ((t - 16 : Nat) : Int) := by rw [IntWalk.i64_in _ (by omega)]; omega
    conv => whnf
    refine ⟨[], ?_⟩
    conv => whnf
    rw [w15]
    refine ⟨by omega, by show ((t - 15 : Nat) : Int) < 64; omega, ?_⟩
    conv => whnf
    refine nth_at (c := .int .u32 ((wordsN l t) (t - 15))) ?_ ?_
    · exact a64_get _ (by omega)
    conv => whnf
    rw [w2]
    refine ⟨by omega, by show ((t - 2 : Nat) : Int) < 64; omega, ?_⟩
    conv => whnf
    refine nth_at (c := .int .u32 ((wordsN l t) (t - 2))) ?_ ?_
    · exact a64_get _ (by omega)
    conv => whnf
    refine ⟨[29], ?_⟩
    conv => whnf
    refine ⟨⟨by decide, by decide⟩, ?_⟩
    conv => whnf
    refine ⟨rfl, ?_⟩
    conv => whnf
    refine ⟨⟨by decide, by decide⟩, ?_⟩
    conv => whnf
    refine ⟨rfl, ?_⟩
    conv => whnf
    rw [w7]
    refine ⟨by omega, by show ((t - 7 : Nat) : Int) < 64; omega, ?_⟩
    conv => whnf
    refine nth_at (c := .int .u32 ((wordsN l t) (t - 7))) ?_ ?_
    · exact a64_get _ (by omega)
    conv => whnf
    refine ⟨⟨by decide, by decide⟩, ?_⟩
    conv => whnf
    refine ⟨rfl, ?_⟩
    conv => whnf
    refine ⟨⟨by decide, by decide⟩, ?_⟩
    conv => whnf
    refine ⟨rfl, ?_⟩
    conv => whnf
    rw [w16]
    refine ⟨by omega, by show ((t - 16 : Nat) : Int) < 64; omega, ?_⟩
    conv => whnf
    refine nth_at (c := .int .u32 ((wordsN l t) (t - 16))) ?_ ?_
    · exact a64_get _ (by omega)
    conv => whnf
    refine ⟨by omega, by show (t : Int) < 64; omega, ?_⟩
    conv => whnf
    refine dec_true _ ⟨by kernel_rfl, by kernel_rfl, ?_⟩ ?_
    · show 0 + (t : Int).toNat * 1 + 1 ≤ 64
      omega
    conv => whnf
    refine force_over (a64 (wordsN l (t + 1))) ?_ ?_
    · refine Eq.trans (b := overAt (a64 (wordsN l t)) (0 + (t : Int).toNat * 1) [.int .u32 (wLater (wordsN l t) t)]) (by kernel_rfl) ?_
      rw [show 0 + (t : Int).toNat * 1 = t by omega, a64_over _ (by omega)]
      congr 1
      funext j
      simp only [wordsN, if_neg (show ¬ t < 16 by omega)]
    conv => whnf
    refine R_at ?_ ?_ (hR (t + 1) (by omega) (by omega))
    · rw [← hi1]; kernel_rfl
    · kernel_rfl
  rename_i h2; have h2 : ¬ (t : Int) < 64 := of_decide_eq_false h2
  obtain rfl : t = 64 := by omega
  conv => whnf
  clear hR R
  unfold blk at hQ
  generalize wordsN l 64 = w at hQ ⊢
  refine aloop_at ?_ ?_ (aloop_inv (σ := Nat) (fun t => ((sp 0 187 [(0, .ptr 0 0), (4, .ptr 1 0), (5, .ptr 2 0), (9, .ptr 3 0), (98, .int .i64 (t : Nat))]), [.var (c8 s), .var (a64 kF), .var (a64 w), .var (c8 (rounds s w t))]))
    (fun t => t ≤ 64) (fun t => 64 - t) ?_ N 0 (Nat.zero_le _) (by omega))
  · kernel_rfl
  · kernel_rfl
  rintro t ht R hR
  conv => whnf
  split
  · rename_i h2; have h2 : (t : Int) < 64 := of_decide_eq_true h2
    have hi1 : IntKind.i64.wrap ((t : Int) + 1) = ((t + 1 : Nat) : Int) := by rw [IntWalk.i64_in _ (by omega)]; omega
    have hrd : rounds s w (t + 1) = rndO (kF t) (w t) (rounds s w t) := rnd_eq _ _ _
    generalize rounds s w t = v at hrd ⊢
    conv => whnf
    refine ⟨[], ?_⟩
    conv => whnf
    refine ⟨by decide, by decide, ?_⟩
    conv => whnf
    refine ⟨by decide, by decide, ?_⟩
    conv => whnf
    refine ⟨[], ?_⟩
    conv => whnf
    refine ⟨by decide, by decide, ?_⟩
    conv => whnf
    refine ⟨⟨by decide, by decide⟩, ?_⟩
    conv => whnf
    refine ⟨rfl, ?_⟩
    conv => whnf
    refine ⟨⟨by decide, by decide⟩, ?_⟩
    conv => whnf
    refine ⟨rfl, ?_⟩
    conv => whnf
    refine ⟨⟨by decide, by decide⟩, ?_⟩
    conv => whnf
    refine ⟨rfl, ?_⟩
    conv => whnf
    refine ⟨by decide, by decide, ?_⟩
    conv => whnf
    refine ⟨by decide, by decide, ?_⟩
    conv => whnf
    refine ⟨by omega, by show ((t : Nat) : Int) < 64; omega, ?_⟩
    conv => whnf
    refine nth_at (c := .int .u32 (kF (t))) ?_ ?_
    · exact a64_get _ (by omega)
    conv => whnf
    refine ⟨by omega, by show ((t : Nat) : Int) < 64; omega, ?_⟩
    conv => whnf
    refine nth_at (c := .int .u32 (w (t))) ?_ ?_
    · exact a64_get _ (by omega)
    conv => whnf
    refine ⟨[], ?_⟩
    conv => whnf
    refine ⟨⟨by decide, by decide⟩, ?_⟩
    conv => whnf
    refine ⟨rfl, ?_⟩
    conv => whnf
    refine ⟨⟨by decide, by decide⟩, ?_⟩
    conv => whnf
    refine ⟨rfl, ?_⟩
    conv => whnf
    refine ⟨⟨by decide, by decide⟩, ?_⟩
    conv => whnf
    refine ⟨rfl, ?_⟩
    conv => whnf
    refine ⟨by decide, by decide, ?_⟩
    conv => whnf
    refine ⟨by decide, by decide, ?_⟩
    conv => whnf
    refine ⟨by decide, by decide, ?_⟩
    conv => whnf
    refine ⟨by decide, by decide, ?_⟩
    conv => whnf
    refine ⟨[2], ?_⟩
    conv => whnf
    refine ⟨⟨by decide, by decide⟩, ?_⟩
    conv => whnf
    refine ⟨⟨by decide, by decide⟩, ?_⟩
    conv => whnf
    refine ⟨by decide, by decide, ?_⟩
    conv => whnf
    refine ⟨by decide, by decide, ?_⟩
    conv => whnf
    refine ⟨by decide, by decide, ?_⟩
    conv => whnf
    refine R_at ?_ ?_ (hR (t + 1) (by omega) (by omega))
    · rw [← hi1]; kernel_rfl
    · refine Eq.trans (b := [.var (c8 s), .var (a64 kF), .var (a64 w), .var (c8 (rndO (kF t) (w t) v))]) (by kernel_rfl) ?_
      rw [← hrd]
  rename_i h2; have h2 : ¬ (t : Int) < 64 := of_decide_eq_false h2
  obtain rfl : t = 64 := by omega
  conv => whnf
  clear hR R
  generalize rounds s w 64 = v at hQ ⊢
  refine aloop_at ?_ ?_ (aloop_inv (σ := Nat) (fun i => ((sp 0 187 [(0, .ptr 0 0), (9, .ptr 1 0), (172, .int .i64 (i : Nat))]), [.var (c8s s v i), .var (c8 v)]))
    (fun i => i ≤ 8) (fun i => 8 - i) ?_ N 0 (Nat.zero_le _) (by omega))
  · kernel_rfl
  · kernel_rfl
  rintro i hi R hR
  have hcs : i = 0 ∨ i = 1 ∨ i = 2 ∨ i = 3 ∨ i = 4 ∨ i = 5 ∨ i = 6 ∨ i = 7 ∨ i = 8 := by omega
  rcases hcs with rfl | rfl | rfl | rfl | rfl | rfl | rfl | rfl | rfl
  · conv => whnf
    refine ⟨[11], ?_⟩
    conv => whnf
    refine ⟨by decide, by decide, ?_⟩
    conv => whnf
    refine ⟨by decide, by decide, ?_⟩
    conv => whnf
    refine ⟨by decide, by decide, ?_⟩
    conv => whnf
    refine R_at ?_ ?_ (hR 1 (by omega) (by omega))
    · kernel_rfl
    · kernel_rfl
  · conv => whnf
    refine ⟨[11], ?_⟩
    conv => whnf
    refine ⟨by decide, by decide, ?_⟩
    conv => whnf
    refine ⟨by decide, by decide, ?_⟩
    conv => whnf
    refine ⟨by decide, by decide, ?_⟩
    conv => whnf
    refine R_at ?_ ?_ (hR 2 (by omega) (by omega))
    · kernel_rfl
    · kernel_rfl
  · conv => whnf
    refine ⟨[11], ?_⟩
    conv => whnf
    refine ⟨by decide, by decide, ?_⟩
    conv => whnf
    refine ⟨by decide, by decide, ?_⟩
    conv => whnf
    refine ⟨by decide, by decide, ?_⟩
    conv => whnf
    refine R_at ?_ ?_ (hR 3 (by omega) (by omega))
    · kernel_rfl
    · kernel_rfl
  · conv => whnf
    refine ⟨[11], ?_⟩
    conv => whnf
    refine ⟨by decide, by decide, ?_⟩
    conv => whnf
    refine ⟨by decide, by decide, ?_⟩
    conv => whnf
    refine ⟨by decide, by decide, ?_⟩
    conv => whnf
    refine R_at ?_ ?_ (hR 4 (by omega) (by omega))
    · kernel_rfl
    · kernel_rfl
  · conv => whnf
    refine ⟨[11], ?_⟩
    conv => whnf
    refine ⟨by decide, by decide, ?_⟩
    conv => whnf
    refine ⟨by decide, by decide, ?_⟩
    conv => whnf
    refine ⟨by decide, by decide, ?_⟩
    conv => whnf
    refine R_at ?_ ?_ (hR 5 (by omega) (by omega))
    · kernel_rfl
    · kernel_rfl
  · conv => whnf
    refine ⟨[11], ?_⟩
    conv => whnf
    refine ⟨by decide, by decide, ?_⟩
    conv => whnf
    refine ⟨by decide, by decide, ?_⟩
    conv => whnf
    refine ⟨by decide, by decide, ?_⟩
    conv => whnf
    refine R_at ?_ ?_ (hR 6 (by omega) (by omega))
    · kernel_rfl
    · kernel_rfl
  · conv => whnf
    refine ⟨[11], ?_⟩
    conv => whnf
    refine ⟨by decide, by decide, ?_⟩
    conv => whnf
    refine ⟨by decide, by decide, ?_⟩
    conv => whnf
    refine ⟨by decide, by decide, ?_⟩
    conv => whnf
    refine R_at ?_ ?_ (hR 7 (by omega) (by omega))
    · kernel_rfl
    · kernel_rfl
  · conv => whnf
    refine ⟨[11], ?_⟩
    conv => whnf
    refine ⟨by decide, by decide, ?_⟩
    conv => whnf
    refine ⟨by decide, by decide, ?_⟩
    conv => whnf
    refine ⟨by decide, by decide, ?_⟩
    conv => whnf
    refine R_at ?_ ?_ (hR 8 (by omega) (by omega))
    · kernel_rfl
    · kernel_rfl
  · conv => whnf
    refine Eq.mp ?_ hQ
    kernel_rfl


end Go.Abs

