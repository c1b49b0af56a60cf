/-
sha.New, (*sha.Hash).Write are what they come to.
-/
import Derived.Test.YtmainkiflkagjaaGreatDoorAbw14
import Derived.Test.YtmainkiflkagjaaGreatDoorAbw13
import Derived.Test.YtmainkiflkagjaaGreatDoorAbw12
namespace Go.Abs
open Go Go.Proofs

inductive BlkTail : List AV → Heap → Prop where
  | a : BlkTail [] []
  | b (o n : Nat) (z : Int) (es : List (List AV)) : BlkTail [.srow 1 o n, .int .u64 z] [.row false 5 1 es]
  | c (z : Int) (es : List (List AV)) : BlkTail [.row 1, .int .u64 z] [.row false 5 1 es]
def R155 : ShRel := fun args H o Hs => ∃ (s : V8) (l : List Int) (cs : List AV) (r : Heap), BlkTail cs r ∧ args = [.ptr 0 0, .slice (bsA l)] ∧ okB l ∧ (64 ≤ l.length ∧ l.length ≤ 1099511627776) ∧
  H = .var (c8 s ++ cs) :: r ∧ o = .ret (.tuple []) ∧ Hs = .var (c8 (blk s l) ++ cs) :: r
set_option maxRecDepth 100000 in
theorem s155 {T : Tab} (hT : TGood Tryz.prog T) : SGood Tryz.prog 175 (shapeT R155) := shapeT_good fun args H o Hs h => by
  obtain ⟨s, l, cs, r, ht, rfl, hb, h64, rfl, rfl, rfl⟩ := h
  have hT2 : TGood Tryz.prog (T155 T) := ext_good hT (s157 hT)
  cases ht with
  | a => exact abody_sound hT2.ok hT2.ang hT2.mono mixedT Tryz.func175 (entersOf Tryz.func175 (by kernel_rfl) rfl) (f155_A s l hb h64 T _ ⟨rfl, rfl⟩ 65 (by decide))
  | b o n z es => exact abody_sound hT2.ok hT2.ang hT2.mono mixedT Tryz.func175 (entersOf Tryz.func175 (by kernel_rfl) rfl) (f155_B s l o n z es hb h64 T _ ⟨rfl, rfl⟩ 65 (by decide))
  | c z es => exact abody_sound hT2.ok hT2.ang hT2.mono mixedT Tryz.func175 (entersOf Tryz.func175 (by kernel_rfl) rfl) (f155_C s l z es hb h64 T _ ⟨rfl, rfl⟩ 65 (by decide))

def R147 : ShRel := fun args H o Hs => args = [] ∧ H = [] ∧ o = .ret (.ptr 0 0) ∧ Hs = [.var (c8 h0 ++ [.zslice, .int .u64 0])]
set_option maxRecDepth 100000 in
theorem f147_ok (T : Tab) (Q : AOut → Heap → Prop) (hQ : Q (.ret (.ptr 0 0)) [.var (c8 h0 ++ [.zslice, .int .u64 0])]) (N : Nat) : abody Tryz.prog (ext T 174 (flatT g154)) 0 N Tryz.f165 [] [] Q := by
  conv => whnf
  refine Eq.mp ?_ hQ
  kernel_rfl
set_option maxRecDepth 100000 in
theorem s147 {T : Tab} (hT : TGood Tryz.prog T) : SGood Tryz.prog 165 (shapeT R147) := shapeT_good fun args H o Hs h => by
  obtain ⟨rfl, rfl, rfl, rfl⟩ := h
  have hT2 := ext_good hT (s154 hT)
  exact abody_sound hT2.ok hT2.ang hT2.mono mixedT Tryz.func165 (entersOf Tryz.func165 (by kernel_rfl) rfl) (f147_ok T _ ⟨rfl, rfl⟩ 0)

/-- What is left behind so many blocks. -/
def restA (n : Nat) : Nat → AV
  | 0 => .row 1
  | k + 1 => .srow 1 (64 * (k + 1)) (n - 64 * (k + 1))
def rowW : Nat → Bool
  | 0 => true
  | _ + 1 => false
def hashH (s : V8) (l : List Int) (k : Nat) : Heap := [.var (c8 (hashN s l k) ++ [restA l.length k, .int .u64 l.length]), .row (rowW k) 5 1 (bsA l)]
def outer (s : V8) (l : List Int) (k : Nat) : Nat → Heap
  | 0 => [.var (c8 s ++ [.zslice, .int .u64 0])]
  | _ + 1 => hashH s l k
theorem drop64 (l : List Int) (i : Nat) : ((bsA l).drop i).take 64 = bsA ((l.drop i).take 64) := by simp [bsA, List.map_drop, List.map_take]
theorem okB_cut {l : List Int} (hb : okB l) (i k : Nat) : okB ((l.drop i).take k) := fun b hbb => hb b (List.mem_of_mem_drop (List.mem_of_mem_take hbb))
theorem R155_mk {args : List AV} {H Hs : Heap} {o : AOut} (s : V8) (l : List Int) (cs : List AV) (r : Heap) (ht : BlkTail cs r) (ha : args = [.ptr 0 0, .slice (bsA l)]) (hb : okB l) (h64 : 64 ≤ l.length ∧ l.length ≤ 1099511627776)
    (hH : H = .var (c8 s ++ cs) :: r) (ho : o = .ret (.tuple [])) (hHs : Hs = .var (c8 (blk s l) ++ cs) :: r) : R155 args H o Hs := ⟨s, l, cs, r, ht, ha, hb, h64, hH, ho, hHs⟩

set_option maxRecDepth 100000 in
set_option maxHeartbeats 16000000 in
theorem f148_ok (s : V8) (l : List Int) (hb : okB l) (hl : l.length ≤ 1073741824) (T : Tab) (Q : AOut → Heap → Prop) (hQ : Q (.ret (.tuple [])) (hashH s l (l.length / 64))) (N : Nat) (hN : l.length + 64 < N) :
    abody Tryz.prog (ext T 175 (shapeT R155)) 1 N Tryz.f166 [.ptr 0 0, .slice [[.slice (bsA l)]]] [.var (c8 s ++ [.zslice, .int .u64 0])] Q := by
  have hlen : (bsA l).length = l.length := bsA_length l
  obtain ⟨k, hk⟩ : ∃ k, k = l.length / 64 := ⟨_, rfl⟩
  rw [← hk] at hQ
  conv => whnf
  refine aloop_at ?_ ?_ (aloop_inv (σ := Nat) (fun i => ((sp 0 55 [(0, .ptr 0 0), (6, .slice [[.slice (bsA l)]]), (7, .int .i64 1), (8, .int .i64 (i : Nat))]), outer s l k i))
    (fun i => i ≤ 1) (fun i => 1 - i) ?_ N 0 (Nat.zero_le _) (by omega))
  · kernel_rfl
  · kernel_rfl
  rintro i hi R hR
  have hcs : i = 0 ∨ i = 1 := by omega
  rcases hcs with rfl | rfl
  rotate_left
  · rcases k with _ | k
    · conv => whnf
      refine Eq.mp ?_ hQ
      kernel_rfl
    · conv => whnf
      refine Eq.mp ?_ hQ
      kernel_rfl
  conv => whnf
  refine ⟨by decide, by show (0 : Int) < 1; decide, [.slice (bsA l)], by kernel_rfl, by kernel_rfl, ?_⟩
  conv => whnf
  refine ⟨fits_bs (by omega), ?_⟩
  conv => whnf
  have hsz : IntKind.u64.wrap (0 + IntKind.u64.wrap ((bsA l).length : Int)) = (l.length : Int) := by
    rw [hlen, wrap64 (l.length : Int) (by omega) (by omega), wrap64 _ (by omega) (by omega)]
    omega
  refine aloop_at ?_ ?_ (aloop_inv (σ := Nat) (fun j => ((sp 0 55 [(0, .ptr 0 0), (6, .slice [[.slice (bsA l)]]), (7, .int .i64 1), (8, .int .i64 0)]), hashH s l j))
    (fun j => j ≤ k) (fun j => k - j) ?_ N 0 (Nat.zero_le _) (by omega))
  · kernel_rfl
  · unfold hashH
    rw [← hsz]
    kernel_rfl
  rintro j hj R2 hR2
  rcases j with _ | j
  · conv => whnf
    split
    · rename_i h3; have h3 : ((bsA l).length : Int) ≥ 64 := of_decide_eq_true h3
      rw [hlen] at h3
      conv => whnf
      refine ⟨[8], ?_⟩
      conv => whnf
      refine ⟨rfl, ⟨by omega, by omega⟩, ?_⟩
      conv => whnf
      refine ⟨[0, 1], .ret (.tuple []), _, .ret (.tuple []), [.var (c8 (blk (hashN s l 0) ((l.drop 0).take 64)) ++ [.row 1, .int .u64 l.length]), .row false 5 1 (bsA l)], ⟨by kernel_rfl, by kernel_rfl,
        R155_mk (hashN s l 0) ((l.drop 0).take 64) [.row 1, .int .u64 l.length] [.row false 5 1 (bsA l)] (.c _ _) (Eq.trans (b := [.ptr 0 0, .slice (((bsA l).drop 0).take 64)]) (by kernel_rfl) (by rw [drop64])) (okB_cut hb _ _) (by rw [List.length_take, List.length_drop]; omega) (by kernel_rfl) rfl rfl, by kernel_rfl, by kernel_rfl⟩, ?_⟩
      conv => whnf
      refine ⟨rfl, ⟨by omega, by omega⟩, ?_⟩
      conv => whnf
      refine R_at ?_ ?_ (hR2 1 (by omega) (by omega))
      · kernel_rfl
      · refine Eq.trans (b := [.var (c8 (hashN s l 1) ++ [.srow 1 (64 * 1) ((bsA l).length - 64), .int .u64 l.length]), .row false 5 1 (bsA l)]) (by kernel_rfl) ?_
        rw [hlen]
        rfl
    · rename_i h3; have h3 : ¬ ((bsA l).length : Int) ≥ 64 := of_decide_eq_false h3
      rw [hlen] at h3
      conv => whnf
      obtain rfl : k = 0 := by omega
      refine R_at ?_ ?_ (hR 1 (by omega) (by omega))
      · kernel_rfl
      · kernel_rfl
  · have hL : ((((bsA l).drop (64 * (j + 1))).take (l.length - 64 * (j + 1))).length : Int) = (l.length : Int) - 64 * (j + 1 : Nat) := by
      rw [List.length_take, List.length_drop, hlen]; omega
    conv => whnf
    split
    · rename_i h3; have h3 := of_decide_eq_true h3
      rw [hL] at h3
      conv => whnf
      refine ⟨[8], ?_⟩
      conv => whnf
      refine ⟨rfl, ⟨by omega, by omega⟩, ?_⟩
      conv => whnf
      refine ⟨[0, 1], .ret (.tuple []), _, .ret (.tuple []), [.var (c8 (blk (hashN s l (j + 1)) ((l.drop (64 * (j + 1))).take 64)) ++ [restA l.length (j + 1), .int .u64 l.length]), .row false 5 1 (bsA l)], ⟨by kernel_rfl, by kernel_rfl,
        R155_mk (hashN s l (j + 1)) ((l.drop (64 * (j + 1))).take 64) [restA l.length (j + 1), .int .u64 l.length] [.row false 5 1 (bsA l)] (.b _ _ _ _) (Eq.trans (b := [.ptr 0 0, .slice (((bsA l).drop (64 * (j + 1))).take 64)]) (by kernel_rfl) (by rw [drop64])) (okB_cut hb _ _) (by rw [List.length_take, List.length_drop]; omega) (by kernel_rfl) rfl rfl, by kernel_rfl, by kernel_rfl⟩, ?_⟩
      conv => whnf
      refine ⟨rfl, ⟨by omega, by omega⟩, ?_⟩
      conv => whnf
      refine R_at ?_ ?_ (hR2 (j + 1 + 1) (by omega) (by omega))
      · kernel_rfl
      · refine Eq.trans (b := [.var (c8 (hashN s l (j + 1 + 1)) ++ [.srow 1 (64 * (j + 1 + 1)) (l.length - 64 * (j + 1) - 64), .int .u64 l.length]), .row false 5 1 (bsA l)]) (by kernel_rfl) ?_
        rw [show l.length - 64 * (j + 1) - 64 = l.length - 64 * (j + 1 + 1) by omega]
        rfl
    · rename_i h3; have h3 := of_decide_eq_false h3
      rw [hL] at h3
      conv => whnf
      obtain rfl : k = j + 1 := by omega
      refine R_at ?_ ?_ (hR 1 (by omega) (by omega))
      · kernel_rfl
      · kernel_rfl

def R148 : ShRel := fun args H o Hs => ∃ (s : V8) (l : List Int), args = [.ptr 0 0, .slice [[.slice (bsA l)]]] ∧ okB l ∧ l.length ≤ 1073741824 ∧ H = [.var (c8 s ++ [.zslice, .int .u64 0])] ∧ o = .ret (.tuple []) ∧ Hs = hashH s l (l.length / 64)
set_option maxRecDepth 100000 in
theorem s148 {T : Tab} (hT : TGood Tryz.prog T) : SGood Tryz.prog 166 (shapeT R148) := shapeT_good fun args H o Hs h => by
  obtain ⟨s, l, rfl, hb, hl, rfl, rfl, rfl⟩ := h
  have hT2 := ext_good hT (s155 hT)
  exact abody_sound hT2.ok hT2.ang hT2.mono mixedT Tryz.func166 (entersOf Tryz.func166 (by kernel_rfl) rfl) (f148_ok s l hb hl T _ ⟨rfl, rfl⟩ (l.length + 65) (by omega))
end Go.Abs

/-
(*sha.Hash).Sum is what it comes to.
-/
namespace Go.Abs
open Go Go.Proofs

def tailB (r : List Int) (n : Int) : List Int := r ++ 128 :: List.replicate (padZ r.length) 0 ++ sizeB n 8
def tailA (n : Nat) : Nat → AV
  | 0 => .row 3
  | k + 1 => .srow 3 (64 * (k + 1)) (n - 64 * (k + 1))
def rv2 : Nat → AV
  | 0 => .zslice
  | _ + 1 => .row 2
theorem bsA_drop (l : List Int) (i : Nat) : bsA (l.drop i) = (bsA l).drop i := by simp [bsA, List.map_drop]
theorem wordB4 (x : Int) : wordB x 4 = [IntKind.u8.wrap (x.fdiv (2 ^ 24)), IntKind.u8.wrap (x.fdiv (2 ^ 16)), IntKind.u8.wrap (x.fdiv (2 ^ 8)), IntKind.u8.wrap x] := by
  have h : x.fdiv (2 ^ (8 * 0)) = x := by rw [show (2 : Int) ^ (8 * 0) = 1 by rfl, Int.fdiv_one]
  show [_, _, _, IntKind.u8.wrap (x.fdiv (2 ^ (8 * 0)))] = _
  rw [h]

set_option maxRecDepth 100000 in
set_option maxHeartbeats 16000000 in
theorem f149_E (s : V8) (n : Nat) (r : List Int) (hb : okB r) (hl : r.length ≤ 1073741824) (hn : n ≤ 1073741824) (T : Tab) (Q : AOut → Heap → Prop)
    (hQ : Q (.ret (.row 2)) [.var (c8 s ++ [.row 1, .int .u64 (n : Nat)]), .row true 5 1 (bsA r), .row true 5 1 (bsA (outN (hashN s (tailB r (8 * (n : Int))) ((tailB r (8 * (n : Int))).length / 64)) 8))]) (N : Nat) (hN : r.length + 72 < N) :
    abody Tryz.prog (ext T 175 (shapeT R155)) 2 N Tryz.f167 [.ptr 0 0] [.var (c8 s ++ [.row 1, .int .u64 (n : Nat)]), .row true 5 1 (bsA r)] Q := by
  have hlen : (bsA r).length = r.length := bsA_length r
  conv => whnf
  refine ⟨fits_bs (by omega), ?_⟩
  conv => whnf
  refine ⟨fits_at (ys' := bsA [128]) (by kernel_rfl) (by show FitsA _ 1 1 (bsA r).length; rw [hlen]; exact fits_bs (by simp; omega)), ?_⟩
  conv => whnf
  refine aloop_at ?_ ?_ (aloop_inv (σ := Nat) (fun z => ((sp 0 72 [(0, .ptr 0 0), (3, .ptr 2 0), (4, .row 3)]), [.var (c8 s ++ [.row 1, .int .u64 (n : Nat)]), .row true 5 1 (bsA r), .var (c8 s), .row true 5 1 (bsA (r ++ 128 :: List.replicate z 0))]))
    (fun z => z ≤ padZ r.length) (fun z => padZ r.length - z) ?_ N 0 (Nat.zero_le _) (by have := padZ_lt r.length; omega))
  · kernel_rfl
  · show _ = [_, _, _, HO.row true 5 1 (bsA (r ++ [128]))]
    rw [bsA_append r [128]]
    kernel_rfl
  rintro z hz R hR
  have hrow : (bsA (r ++ 128 :: List.replicate z 0)).length = r.length + 1 + z := by simp; omega
  have hz2 := padZ_lt r.length
  have hz3 := padZ_mod r.length
  conv => whnf
  split
  · rename_i h2; have h2 : ((((bsA (r ++ 128 :: List.replicate z 0)).length : Nat) : Int).tmod 64 != 56) = true := h2
    rw [hrow, bne_iff_ne, Int.tmod_eq_emod_of_nonneg (by omega)] at h2
    have hzl : z < padZ r.length := by
      rcases Nat.lt_or_ge z (padZ r.length) with h | h
      · exact h
      · have : z = padZ r.length := by omega
        omega
    conv => whnf
    refine ⟨fits_at (ys' := bsA [0]) (by kernel_rfl) (by
      show FitsA (bsA [0]) 1 1 (bsA (r ++ 128 :: List.replicate z 0)).length
      rw [hrow]
      exact fits_bs (by simp; omega)), ?_⟩
    conv => whnf
    refine R_at ?_ ?_ (hR (z + 1) (by omega) (by omega))
    · kernel_rfl
    · show _ = [_, _, _, HO.row true 5 1 (bsA (r ++ 128 :: List.replicate (z + 1) 0))]
      rw [show r ++ 128 :: List.replicate (z + 1) (0 : Int) = (r ++ 128 :: List.replicate z 0) ++ [0] by rw [List.replicate_succ']; simp, bsA_append (r ++ 128 :: List.replicate z 0) [0]]
      kernel_rfl
  rename_i h2; have h2 : ((((bsA (r ++ 128 :: List.replicate z 0)).length : Nat) : Int).tmod 64 != 56) = false := h2
  rw [hrow, bne_eq_false_iff_eq, Int.tmod_eq_emod_of_nonneg (by omega)] at h2
  have hzl : z = padZ r.length := by omega
  conv => whnf
  clear hR R
  subst hzl
  have hm0 := sizeB_ok (8 * (n : Int)) 8
  unfold tailB at hQ
  obtain ⟨p, hp⟩ : ∃ p, p = r ++ 128 :: List.replicate (padZ r.length) 0 := ⟨_, rfl⟩
  have hpl : p.length ≤ r.length + 64 := by rw [hp]; simp; omega
  have hpm : p.length % 64 = 56 := by rw [hp]; simp only [List.length_append, List.length_cons, List.length_replicate]; omega
  have hpb : okB p := by
    rw [hp]
    intro b hbb
    simp only [List.mem_append, List.mem_cons, List.mem_replicate] at hbb
    rcases hbb with hbb | rfl | ⟨_, rfl⟩
    · exact hb b hbb
    · omega
    · omega
  rw [← hp] at hQ ⊢
  have hsz : IntKind.u64.wrap (8 * (n : Int)) = 8 * (n : Int) := wrap64 _ (by omega) (by omega)
  refine aloop_at ?_ ?_ (aloop_inv (σ := Nat) (fun k => ((sp 0 72 [(0, .ptr 0 0), (3, .ptr 2 0), (4, .row 3), (5, .int .i64 (56 - 8 * (k : Nat)))]), [.var (c8 s ++ [.row 1, .int .u64 (n : Nat)]), .row true 5 1 (bsA r), .var (c8 s), .row true 5 1 (bsA (p ++ sizeB (8 * (n : Int)) k))]))
    (fun k => k ≤ 8) (fun k => 8 - k) ?_ N 0 (Nat.zero_le _) (by omega))
  · kernel_rfl
  · show _ = [_, _, _, HO.row true 5 1 (bsA (p ++ []))]
    rw [List.append_nil]
    kernel_rfl
  rintro k hk R hR
  have hrow2 : (bsA (p ++ sizeB (8 * (n : Int)) k)).length = p.length + k := by simp [sizeB_len]
  conv => whnf
  split
  · rename_i h3; have h3 : (56 - 8 * (k : Int)) ≥ 0 := of_decide_eq_true h3
    have e2 : IntKind.i64.wrap (56 - 8 * (k : Int) - 8) = 56 - 8 * ((k + 1 : Nat) : Int) := by rw [IntWalk.i64_in _ (by omega)]; omega
    conv => whnf
    rw [decide_eq_true (show 0 ≤ 56 - 8 * (k : Int) by omega), hsz]
    conv => whnf
    refine ⟨fits_at (ys' := bsA [IntKind.u8.wrap ((8 * (n : Int)).fdiv (2 ^ min (56 - 8 * (k : Int)).toNat IntKind.u64.bits))]) (by kernel_rfl) (by
      show FitsA (bsA _) 1 1 (bsA (p ++ sizeB (8 * (n : Int)) k)).length
      rw [hrow2]
      exact fits_bs (by simp; omega)), ?_⟩
    conv => whnf
    refine R_at ?_ ?_ (hR (k + 1) (by omega) (by omega))
    · rw [← e2]; kernel_rfl
    · show _ = [_, _, _, HO.row true 5 1 (bsA (p ++ (sizeB (8 * (n : Int)) k ++ [IntKind.u8.wrap ((8 * (n : Int)).fdiv (2 ^ (8 * (7 - k))))])))]
      rw [show 8 * (7 - k) = min (56 - 8 * (k : Int)).toNat IntKind.u64.bits by show _ = min _ 64; omega, ← List.append_assoc, bsA_append (p ++ sizeB (8 * (n : Int)) k) [_]]
      kernel_rfl
  rename_i h3; have h3 : ¬ (56 - 8 * (k : Int)) ≥ 0 := of_decide_eq_false h3
  obtain rfl : k = 8 := by omega
  conv => whnf
  clear hR R
  generalize sizeB (8 * (n : Int)) 8 = q at hQ hm0 hrow2 ⊢
  obtain ⟨m, hm⟩ : ∃ m, m = p ++ q := ⟨_, rfl⟩
  rw [← hm] at hQ hrow2 ⊢
  have hml : (bsA m).length = m.length := bsA_length m
  have hmb : okB m := by
    rw [hm]
    intro b hbb
    rcases List.mem_append.1 hbb with h | h
    · exact hpb b h
    · exact hm0 b h
  rw [hml] at hrow2
  refine aloop_at ?_ ?_ (aloop_inv (σ := Nat) (fun i => ((sp 0 72 [(3, .ptr 2 0), (4, tailA m.length i)]), [.var (c8 s ++ [.row 1, .int .u64 (n : Nat)]), .row true 5 1 (bsA r), .var (c8 (hashN s m i)), .row (rowW i) 5 1 (bsA m)]))
    (fun i => i ≤ m.length / 64) (fun i => m.length / 64 - i) ?_ N 0 (Nat.zero_le _) (by omega))
  · kernel_rfl
  · kernel_rfl
  rintro i hi R hR
  rcases i with _ | i
  · conv => whnf
    split
    · rename_i h4; have h4 : ((bsA m).length : Int) > 0 := of_decide_eq_true h4
      conv => whnf
      refine ⟨rfl, ⟨by omega, by omega⟩, ?_⟩
      conv => whnf
      refine ⟨[2], .ret (.tuple []), [.var (c8 (blk (hashN s m 0) ((m.drop (0)).take 64)))], .ret (.tuple []), [.var (c8 s ++ [.row 1, .int .u64 (n : Nat)]), .row true 5 1 (bsA r), .var (c8 (blk (hashN s m 0) ((m.drop (0)).take 64))), .row false 5 1 (bsA m)], ⟨by kernel_rfl, by kernel_rfl,
        R155_mk (hashN s m 0) ((m.drop (0)).take 64) [] [] .a (Eq.trans (b := [.ptr 0 0, .slice (((bsA m).drop (0)).take 64)]) (by kernel_rfl) (by rw [drop64])) (okB_cut hmb _ _) (by rw [List.length_take, List.length_drop]; omega) (by kernel_rfl) rfl (by kernel_rfl), by kernel_rfl, by kernel_rfl⟩, ?_⟩
      conv => whnf
      refine ⟨rfl, ⟨by omega, by omega⟩, ?_⟩
      conv => whnf
      refine R_at ?_ ?_ (hR 1 (by omega) (by omega))
      · refine Eq.trans (b := sp 0 72 [(3, .ptr 2 0), (4, .srow 3 (64 * 1) ((bsA m).length - 64))]) (by kernel_rfl) ?_
        rw [hml]
        rfl
      · kernel_rfl
    · rename_i h4; have h4 : ¬ ((bsA m).length : Int) > 0 := of_decide_eq_false h4
      omega
  · have hL : ((((bsA m).drop (64 * (i + 1))).take (m.length - 64 * (i + 1))).length : Int) = (m.length : Int) - 64 * (i + 1 : Nat) := by
      rw [List.length_take, List.length_drop, hml]; omega
    conv => whnf
    split
    · rename_i h4; have h4 := of_decide_eq_true h4
      rw [hL] at h4
      conv => whnf
      refine ⟨rfl, ⟨by omega, by omega⟩, ?_⟩
      conv => whnf
      refine ⟨[2], .ret (.tuple []), [.var (c8 (blk (hashN s m (i + 1)) ((m.drop (64 * (i + 1))).take 64)))], .ret (.tuple []), [.var (c8 s ++ [.row 1, .int .u64 (n : Nat)]), .row true 5 1 (bsA r), .var (c8 (blk (hashN s m (i + 1)) ((m.drop (64 * (i + 1))).take 64))), .row false 5 1 (bsA m)], ⟨by kernel_rfl, by kernel_rfl,
        R155_mk (hashN s m (i + 1)) ((m.drop (64 * (i + 1))).take 64) [] [] .a (Eq.trans (b := [.ptr 0 0, .slice (((bsA m).drop (64 * (i + 1))).take 64)]) (by kernel_rfl) (by rw [drop64])) (okB_cut hmb _ _) (by rw [List.length_take, List.length_drop]; omega) (by kernel_rfl) rfl (by kernel_rfl), by kernel_rfl, by kernel_rfl⟩, ?_⟩
      conv => whnf
      refine ⟨rfl, ⟨by omega, by omega⟩, ?_⟩
      conv => whnf
      refine R_at ?_ ?_ (hR (i + 1 + 1) (by omega) (by omega))
      · refine Eq.trans (b := sp 0 72 [(3, .ptr 2 0), (4, .srow 3 (64 * (i + 1 + 1)) (m.length - 64 * (i + 1) - 64))]) (by kernel_rfl) ?_
        rw [show m.length - 64 * (i + 1) - 64 = m.length - 64 * (i + 1 + 1) by omega]
        rfl
      · kernel_rfl
    · rename_i h4; have h4 := of_decide_eq_false h4
      rw [hL] at h4
      have hfi : m.length / 64 = i + 1 := by omega
      conv => whnf
      clear hR R
      rw [hfi] at hQ
      generalize hashN s m (i + 1) = v at hQ ⊢
      refine aloop_at ?_ ?_ (aloop_inv (σ := Nat) (fun k => ((sp 0 72 [(6, rv2 k), (52, .agg (c8 v)), (53, .int .i64 (k : Nat))]), [.var (c8 s ++ [.row 1, .int .u64 (n : Nat)]), .row true 5 1 (bsA r)] ++ rhJ (outN v k) k))
        (fun k => k ≤ 8) (fun k => 8 - k) ?_ N 0 (Nat.zero_le _) (by omega))
      · kernel_rfl
      · kernel_rfl
      rintro k hk R hR
      have hcs : k = 0 ∨ k = 1 ∨ k = 2 ∨ k = 3 ∨ k = 4 ∨ k = 5 ∨ k = 6 ∨ k = 7 ∨ k = 8 := by omega
      rcases hcs with rfl | rfl | rfl | rfl | rfl | rfl | rfl | rfl | rfl
      · conv => whnf
        refine ⟨by decide, by decide, ?_⟩
        conv => whnf
        refine ⟨fits_at (ys' := bsA (wordB (vw v 0) 4)) (by rw [wordB4]; kernel_rfl) (fits_bs (by simp [wordB_len])), ?_⟩
        conv => whnf
        refine R_at ?_ ?_ (hR 1 (by omega) (by omega))
        · kernel_rfl
        · show _ = [_, _, HO.row true 5 1 (bsA (outN v 0 ++ wordB (vw v 0) 4))]
          rw [wordB4, bsA_append (outN v 0) _]
          kernel_rfl
      · conv => whnf
        refine ⟨by decide, by decide, ?_⟩
        conv => whnf
        refine ⟨fits_at (ys' := bsA (wordB (vw v 1) 4)) (by rw [wordB4]; kernel_rfl) (fits_bs (by simp [outN_len, wordB_len])), ?_⟩
        conv => whnf
        refine R_at ?_ ?_ (hR 2 (by omega) (by omega))
        · kernel_rfl
        · show _ = [_, _, HO.row true 5 1 (bsA (outN v 1 ++ wordB (vw v 1) 4))]
          rw [wordB4, bsA_append (outN v 1) _]
          kernel_rfl
      · conv => whnf
        refine ⟨by decide, by decide, ?_⟩
        conv => whnf
        refine ⟨fits_at (ys' := bsA (wordB (vw v 2) 4)) (by rw [wordB4]; kernel_rfl) (fits_bs (by simp [outN_len, wordB_len])), ?_⟩
        conv => whnf
        refine R_at ?_ ?_ (hR 3 (by omega) (by omega))
        · kernel_rfl
        · show _ = [_, _, HO.row true 5 1 (bsA (outN v 2 ++ wordB (vw v 2) 4))]
          rw [wordB4, bsA_append (outN v 2) _]
          kernel_rfl
      · conv => whnf
        refine ⟨by decide, by decide, ?_⟩
        conv => whnf
        refine ⟨fits_at (ys' := bsA (wordB (vw v 3) 4)) (by rw [wordB4]; kernel_rfl) (fits_bs (by simp [outN_len, wordB_len])), ?_⟩
        conv => whnf
        refine R_at ?_ ?_ (hR 4 (by omega) (by omega))
        · kernel_rfl
        · show _ = [_, _, HO.row true 5 1 (bsA (outN v 3 ++ wordB (vw v 3) 4))]
          rw [wordB4, bsA_append (outN v 3) _]
          kernel_rfl
      · conv => whnf
        refine ⟨by decide, by decide, ?_⟩
        conv => whnf
        refine ⟨fits_at (ys' := bsA (wordB (vw v 4) 4)) (by rw [wordB4]; kernel_rfl) (fits_bs (by simp [outN_len, wordB_len])), ?_⟩
        conv => whnf
        refine R_at ?_ ?_ (hR 5 (by omega) (by omega))
        · kernel_rfl
        · show _ = [_, _, HO.row true 5 1 (bsA (outN v 4 ++ wordB (vw v 4) 4))]
          rw [wordB4, bsA_append (outN v 4) _]
          kernel_rfl
      · conv => whnf
        refine ⟨by decide, by decide, ?_⟩
        conv => whnf
        refine ⟨fits_at (ys' := bsA (wordB (vw v 5) 4)) (by rw [wordB4]; kernel_rfl) (fits_bs (by simp [outN_len, wordB_len])), ?_⟩
        conv => whnf
        refine R_at ?_ ?_ (hR 6 (by omega) (by omega))
        · kernel_rfl
        · show _ = [_, _, HO.row true 5 1 (bsA (outN v 5 ++ wordB (vw v 5) 4))]
          rw [wordB4, bsA_append (outN v 5) _]
          kernel_rfl
      · conv => whnf
        refine ⟨by decide, by decide, ?_⟩
        conv => whnf
        refine ⟨fits_at (ys' := bsA (wordB (vw v 6) 4)) (by rw [wordB4]; kernel_rfl) (fits_bs (by simp [outN_len, wordB_len])), ?_⟩
        conv => whnf
        refine R_at ?_ ?_ (hR 7 (by omega) (by omega))
        · kernel_rfl
        · show _ = [_, _, HO.row true 5 1 (bsA (outN v 6 ++ wordB (vw v 6) 4))]
          rw [wordB4, bsA_append (outN v 6) _]
          kernel_rfl
      · conv => whnf
        refine ⟨by decide, by decide, ?_⟩
        conv => whnf
        refine ⟨fits_at (ys' := bsA (wordB (vw v 7) 4)) (by rw [wordB4]; kernel_rfl) (fits_bs (by simp [outN_len, wordB_len])), ?_⟩
        conv => whnf
        refine R_at ?_ ?_ (hR 8 (by omega) (by omega))
        · kernel_rfl
        · show _ = [_, _, HO.row true 5 1 (bsA (outN v 7 ++ wordB (vw v 7) 4))]
          rw [wordB4, bsA_append (outN v 7) _]
          kernel_rfl
      · conv => whnf
        refine Eq.mp ?_ hQ
        kernel_rfl


set_option maxRecDepth 100000 in
set_option maxHeartbeats 16000000 in
theorem f149_F (s : V8) (n : Nat) (r : List Int) (o y : Nat) (l : List Int) (hr : ((bsA l).drop o).take y = bsA r) (hb : okB r) (hl : r.length ≤ 1073741824) (hn : n ≤ 1073741824) (T : Tab) (Q : AOut → Heap → Prop)
    (hQ : Q (.ret (.row 2)) [.var (c8 s ++ [.srow 1 o y, .int .u64 (n : Nat)]), .row false 5 1 (bsA l), .row true 5 1 (bsA (outN (hashN s (tailB r (8 * (n : Int))) ((tailB r (8 * (n : Int))).length / 64)) 8))]) (N : Nat) (hN : r.length + 72 < N) :
    abody Tryz.prog (ext T 175 (shapeT R155)) 2 N Tryz.f167 [.ptr 0 0] [.var (c8 s ++ [.srow 1 o y, .int .u64 (n : Nat)]), .row false 5 1 (bsA l)] Q := by
  have hlen : (bsA r).length = r.length := bsA_length r
  conv => whnf
  rw [hr]
  refine ⟨fits_bs (by omega), ?_⟩
  conv => whnf
  refine ⟨fits_at (ys' := bsA [128]) (by kernel_rfl) (by show FitsA _ 1 1 (bsA r).length; rw [hlen]; exact fits_bs (by simp; omega)), ?_⟩
  conv => whnf
  refine aloop_at ?_ ?_ (aloop_inv (σ := Nat) (fun z => ((sp 0 72 [(0, .ptr 0 0), (3, .ptr 2 0), (4, .row 3)]), [.var (c8 s ++ [.srow 1 o y, .int .u64 (n : Nat)]), .row false 5 1 (bsA l), .var (c8 s), .row true 5 1 (bsA (r ++ 128 :: List.replicate z 0))]))
    (fun z => z ≤ padZ r.length) (fun z => padZ r.length - z) ?_ N 0 (Nat.zero_le _) (by have := padZ_lt r.length; omega))
  · kernel_rfl
  · show _ = [_, _, _, HO.row true 5 1 (bsA (r ++ [128]))]
    rw [bsA_append r [128]]
    kernel_rfl
  rintro z hz R hR
  have hrow : (bsA (r ++ 128 :: List.replicate z 0)).length = r.length + 1 + z := by simp; omega
  have hz2 := padZ_lt r.length
  have hz3 := padZ_mod r.length
  conv => whnf
  split
  · rename_i h2; have h2 : ((((bsA (r ++ 128 :: List.replicate z 0)).length : Nat) : Int).tmod 64 != 56) = true := h2
    rw [hrow, bne_iff_ne, Int.tmod_eq_emod_of_nonneg (by omega)] at h2
    have hzl : z < padZ r.length := by
      rcases Nat.lt_or_ge z (padZ r.length) with h | h
      · exact h
      · have : z = padZ r.length := by omega
        omega
    conv => whnf
    refine ⟨fits_at (ys' := bsA [0]) (by kernel_rfl) (by
      show FitsA (bsA [0]) 1 1 (bsA (r ++ 128 :: List.replicate z 0)).length
      rw [hrow]
      exact fits_bs (by simp; omega)), ?_⟩
    conv => whnf
    refine R_at ?_ ?_ (hR (z + 1) (by omega) (by omega))
    · kernel_rfl
    · show _ = [_, _, _, HO.row true 5 1 (bsA (r ++ 128 :: List.replicate (z + 1) 0))]
      rw [show r ++ 128 :: List.replicate (z + 1) (0 : Int) = (r ++ 128 :: List.replicate z 0) ++ [0] by rw [List.replicate_succ']; simp, bsA_append (r ++ 128 :: List.replicate z 0) [0]]
      kernel_rfl
  rename_i h2; have h2 : ((((bsA (r ++ 128 :: List.replicate z 0)).length : Nat) : Int).tmod 64 != 56) = false := h2
  rw [hrow, bne_eq_false_iff_eq, Int.tmod_eq_emod_of_nonneg (by omega)] at h2
  have hzl : z = padZ r.length := by omega
  conv => whnf
  clear hR R
  subst hzl
  have hm0 := sizeB_ok (8 * (n : Int)) 8
  unfold tailB at hQ
  obtain ⟨p, hp⟩ : ∃ p, p = r ++ 128 :: List.replicate (padZ r.length) 0 := ⟨_, rfl⟩
  have hpl : p.length ≤ r.length + 64 := by rw [hp]; simp; omega
  have hpm : p.length % 64 = 56 := by rw [hp]; simp only [List.length_append, List.length_cons, List.length_replicate]; omega
  have hpb : okB p := by
    rw [hp]
    intro b hbb
    simp only [List.mem_append, List.mem_cons, List.mem_replicate] at hbb
    rcases hbb with hbb | rfl | ⟨_, rfl⟩
    · exact hb b hbb
    · omega
    · omega
  rw [← hp] at hQ ⊢
  have hsz : IntKind.u64.wrap (8 * (n : Int)) = 8 * (n : Int) := wrap64 _ (by omega) (by omega)
  refine aloop_at ?_ ?_ (aloop_inv (σ := Nat) (fun k => ((sp 0 72 [(0, .ptr 0 0), (3, .ptr 2 0), (4, .row 3), (5, .int .i64 (56 - 8 * (k : Nat)))]), [.var (c8 s ++ [.srow 1 o y, .int .u64 (n : Nat)]), .row false 5 1 (bsA l), .var (c8 s), .row true 5 1 (bsA (p ++ sizeB (8 * (n : Int)) k))]))
    (fun k => k ≤ 8) (fun k => 8 - k) ?_ N 0 (Nat.zero_le _) (by omega))
  · kernel_rfl
  · show _ = [_, _, _, HO.row true 5 1 (bsA (p ++ []))]
    rw [List.append_nil]
    kernel_rfl
  rintro k hk R hR
  have hrow2 : (bsA (p ++ sizeB (8 * (n : Int)) k)).length = p.length + k := by simp [sizeB_len]
  conv => whnf
  split
  · rename_i h3; have h3 : (56 - 8 * (k : Int)) ≥ 0 := of_decide_eq_true h3
    have e2 : IntKind.i64.wrap (56 - 8 * (k : Int) - 8) = 56 - 8 * ((k + 1 : Nat) : Int) := by rw [IntWalk.i64_in _ (by omega)]; omega
    conv => whnf
    rw [decide_eq_true (show 0 ≤ 56 - 8 * (k : Int) by omega), hsz]
    conv => whnf
    refine ⟨fits_at (ys' := bsA [IntKind.u8.wrap ((8 * (n : Int)).fdiv (2 ^ min (56 - 8 * (k : Int)).toNat IntKind.u64.bits))]) (by kernel_rfl) (by
      show FitsA (bsA _) 1 1 (bsA (p ++ sizeB (8 * (n : Int)) k)).length
      rw [hrow2]
      exact fits_bs (by simp; omega)), ?_⟩
    conv => whnf
    refine R_at ?_ ?_ (hR (k + 1) (by omega) (by omega))
    · rw [← e2]; kernel_rfl
    · show _ = [_, _, _, HO.row true 5 1 (bsA (p ++ (sizeB (8 * (n : Int)) k ++ [IntKind.u8.wrap ((8 * (n : Int)).fdiv (2 ^ (8 * (7 - k))))])))]
      rw [show 8 * (7 - k) = min (56 - 8 * (k : Int)).toNat IntKind.u64.bits by show _ = min _ 64; omega, ← List.append_assoc, bsA_append (p ++ sizeB (8 * (n : Int)) k) [_]]
      kernel_rfl
  rename_i h3; have h3 : ¬ (56 - 8 * (k : Int)) ≥ 0 := of_decide_eq_false h3
  obtain rfl : k = 8 := by omega
  conv => whnf
  clear hR R
  generalize sizeB (8 * (n : Int)) 8 = q at hQ hm0 hrow2 ⊢
  obtain ⟨m, hm⟩ : ∃ m, m = p ++ q := ⟨_, rfl⟩
  rw [← hm] at hQ hrow2 ⊢
  have hml : (bsA m).length = m.length := bsA_length m
  have hmb : okB m := by
    rw [hm]
    intro b hbb
    rcases List.mem_append.1 hbb with h | h
    · exact hpb b h
    · exact hm0 b h
  rw [hml] at hrow2
  refine aloop_at ?_ ?_ (aloop_inv (σ := Nat) (fun i => ((sp 0 72 [(3, .ptr 2 0), (4, tailA m.length i)]), [.var (c8 s ++ [.srow 1 o y, .int .u64 (n : Nat)]), .row false 5 1 (bsA l), .var (c8 (hashN s m i)), .row (rowW i) 5 1 (bsA m)]))
    (fun i => i ≤ m.length / 64) (fun i => m.length / 64 - i) ?_ N 0 (Nat.zero_le _) (by omega))
  · kernel_rfl
  · kernel_rfl
  rintro i hi R hR
  rcases i with _ | i
  · conv => whnf
    split
    · rename_i h4; have h4 : ((bsA m).length : Int) > 0 := of_decide_eq_true h4
      conv => whnf
      refine ⟨rfl, ⟨by omega, by omega⟩, ?_⟩
      conv => whnf
      refine ⟨[2], .ret (.tuple []), [.var (c8 (blk (hashN s m 0) ((m.drop (0)).take 64)))], .ret (.tuple []), [.var (c8 s ++ [.srow 1 o y, .int .u64 (n : Nat)]), .row false 5 1 (bsA l), .var (c8 (blk (hashN s m 0) ((m.drop (0)).take 64))), .row false 5 1 (bsA m)], ⟨by kernel_rfl, by kernel_rfl,
        R155_mk (hashN s m 0) ((m.drop (0)).take 64) [] [] .a (Eq.trans (b := [.ptr 0 0, .slice (((bsA m).drop (0)).take 64)]) (by kernel_rfl) (by rw [drop64])) (okB_cut hmb _ _) (by rw [List.length_take, List.length_drop]; omega) (by kernel_rfl) rfl (by kernel_rfl), by kernel_rfl, by kernel_rfl⟩, ?_⟩
      conv => whnf
      refine ⟨rfl, ⟨by omega, by omega⟩, ?_⟩
      conv => whnf
      refine R_at ?_ ?_ (hR 1 (by omega) (by omega))
      · refine Eq.trans (b := sp 0 72 [(3, .ptr 2 0), (4, .srow 3 (64 * 1) ((bsA m).length - 64))]) (by kernel_rfl) ?_
        rw [hml]
        rfl
      · kernel_rfl
    · rename_i h4; have h4 : ¬ ((bsA m).length : Int) > 0 := of_decide_eq_false h4
      omega
  · have hL : ((((bsA m).drop (64 * (i + 1))).take (m.length - 64 * (i + 1))).length : Int) = (m.length : Int) - 64 * (i + 1 : Nat) := by
      rw [List.length_take, List.length_drop, hml]; omega
    conv => whnf
    split
    · rename_i h4; have h4 := of_decide_eq_true h4
      rw [hL] at h4
      conv => whnf
      refine ⟨rfl, ⟨by omega, by omega⟩, ?_⟩
      conv => whnf
      refine ⟨[2], .ret (.tuple []), [.var (c8 (blk (hashN s m (i + 1)) ((m.drop (64 * (i + 1))).take 64)))], .ret (.tuple []), [.var (c8 s ++ [.srow 1 o y, .int .u64 (n : Nat)]), .row false 5 1 (bsA l), .var (c8 (blk (hashN s m (i + 1)) ((m.drop (64 * (i + 1))).take 64))), .row false 5 1 (bsA m)], ⟨by kernel_rfl, by kernel_rfl,
        R155_mk (hashN s m (i + 1)) ((m.drop (64 * (i + 1))).take 64) [] [] .a (Eq.trans (b := [.ptr 0 0, .slice (((bsA m).drop (64 * (i + 1))).take 64)]) (by kernel_rfl) (by rw [drop64])) (okB_cut hmb _ _) (by rw [List.length_take, List.length_drop]; omega) (by kernel_rfl) rfl (by kernel_rfl), by kernel_rfl, by kernel_rfl⟩, ?_⟩
      conv => whnf
      refine ⟨rfl, ⟨by omega, by omega⟩, ?_⟩
      conv => whnf
      refine R_at ?_ ?_ (hR (i + 1 + 1) (by omega) (by omega))
      · refine Eq.trans (b := sp 0 72 [(3, .ptr 2 0), (4, .srow 3 (64 * (i + 1 + 1)) (m.length - 64 * (i + 1) - 64))]) (by kernel_rfl) ?_
        rw [show m.length - 64 * (i + 1) - 64 = m.length - 64 * (i + 1 + 1) by omega]
        rfl
      · kernel_rfl
    · rename_i h4; have h4 := of_decide_eq_false h4
      rw [hL] at h4
      have hfi : m.length / 64 = i + 1 := by omega
      conv => whnf
      clear hR R
      rw [hfi] at hQ
      generalize hashN s m (i + 1) = v at hQ ⊢
      refine aloop_at ?_ ?_ (aloop_inv (σ := Nat) (fun k => ((sp 0 72 [(6, rv2 k), (52, .agg (c8 v)), (53, .int .i64 (k : Nat))]), [.var (c8 s ++ [.srow 1 o y, .int .u64 (n : Nat)]), .row false 5 1 (bsA l)] ++ rhJ (outN v k) k))
        (fun k => k ≤ 8) (fun k => 8 - k) ?_ N 0 (Nat.zero_le _) (by omega))
      · kernel_rfl
      · kernel_rfl
      rintro k hk R hR
      have hcs : k = 0 ∨ k = 1 ∨ k = 2 ∨ k = 3 ∨ k = 4 ∨ k = 5 ∨ k = 6 ∨ k = 7 ∨ k = 8 := by omega
      rcases hcs with rfl | rfl | rfl | rfl | rfl | rfl | rfl | rfl | rfl
      · conv => whnf
        refine ⟨by decide, by decide, ?_⟩
        conv => whnf
        refine ⟨fits_at (ys' := bsA (wordB (vw v 0) 4)) (by rw [wordB4]; kernel_rfl) (fits_bs (by simp [wordB_len])), ?_⟩
        conv => whnf
        refine R_at ?_ ?_ (hR 1 (by omega) (by omega))
        · kernel_rfl
        · show _ = [_, _, HO.row true 5 1 (bsA (outN v 0 ++ wordB (vw v 0) 4))]
          rw [wordB4, bsA_append (outN v 0) _]
          kernel_rfl
      · conv => whnf
        refine ⟨by decide, by decide, ?_⟩
        conv => whnf
        refine ⟨fits_at (ys' := bsA (wordB (vw v 1) 4)) (by rw [wordB4]; kernel_rfl) (fits_bs (by simp [outN_len, wordB_len])), ?_⟩
        conv => whnf
        refine R_at ?_ ?_ (hR 2 (by omega) (by omega))
        · kernel_rfl
        · show _ = [_, _, HO.row true 5 1 (bsA (outN v 1 ++ wordB (vw v 1) 4))]
          rw [wordB4, bsA_append (outN v 1) _]
          kernel_rfl
      · conv => whnf
        refine ⟨by decide, by decide, ?_⟩
        conv => whnf
        refine ⟨fits_at (ys' := bsA (wordB (vw v 2) 4)) (by rw [wordB4]; kernel_rfl) (fits_bs (by simp [outN_len, wordB_len])), ?_⟩
        conv => whnf
        refine R_at ?_ ?_ (hR 3 (by omega) (by omega))
        · kernel_rfl
        · show _ = [_, _, HO.row true 5 1 (bsA (outN v 2 ++ wordB (vw v 2) 4))]
          rw [wordB4, bsA_append (outN v 2) _]
          kernel_rfl
      · conv => whnf
        refine ⟨by decide, by decide, ?_⟩
        conv => whnf
        refine ⟨fits_at (ys' := bsA (wordB (vw v 3) 4)) (by rw [wordB4]; kernel_rfl) (fits_bs (by simp [outN_len, wordB_len])), ?_⟩
        conv => whnf
        refine R_at ?_ ?_ (hR 4 (by omega) (by omega))
        · kernel_rfl
        · show _ = [_, _, HO.row true 5 1 (bsA (outN v 3 ++ wordB (vw v 3) 4))]
          rw [wordB4, bsA_append (outN v 3) _]
          kernel_rfl
      · conv => whnf
        refine ⟨by decide, by decide, ?_⟩
        conv => whnf
        refine ⟨fits_at (ys' := bsA (wordB (vw v 4) 4)) (by rw [wordB4]; kernel_rfl) (fits_bs (by simp [outN_len, wordB_len])), ?_⟩
        conv => whnf
        refine R_at ?_ ?_ (hR 5 (by omega) (by omega))
        · kernel_rfl
        · show _ = [_, _, HO.row true 5 1 (bsA (outN v 4 ++ wordB (vw v 4) 4))]
          rw [wordB4, bsA_append (outN v 4) _]
          kernel_rfl
      · conv => whnf
        refine ⟨by decide, by decide, ?_⟩
        conv => whnf
        refine ⟨fits_at (ys' := bsA (wordB (vw v 5) 4)) (by rw [wordB4]; kernel_rfl) (fits_bs (by simp [outN_len, wordB_len])), ?_⟩
        conv => whnf
        refine R_at ?_ ?_ (hR 6 (by omega) (by omega))
        · kernel_rfl
        · show _ = [_, _, HO.row true 5 1 (bsA (outN v 5 ++ wordB (vw v 5) 4))]
          rw [wordB4, bsA_append (outN v 5) _]
          kernel_rfl
      · conv => whnf
        refine ⟨by decide, by decide, ?_⟩
        conv => whnf
        refine ⟨fits_at (ys' := bsA (wordB (vw v 6) 4)) (by rw [wordB4]; kernel_rfl) (fits_bs (by simp [outN_len, wordB_len])), ?_⟩
        conv => whnf
        refine R_at ?_ ?_ (hR 7 (by omega) (by omega))
        · kernel_rfl
        · show _ = [_, _, HO.row true 5 1 (bsA (outN v 6 ++ wordB (vw v 6) 4))]
          rw [wordB4, bsA_append (outN v 6) _]
          kernel_rfl
      · conv => whnf
        refine ⟨by decide, by decide, ?_⟩
        conv => whnf
        refine ⟨fits_at (ys' := bsA (wordB (vw v 7) 4)) (by rw [wordB4]; kernel_rfl) (fits_bs (by simp [outN_len, wordB_len])), ?_⟩
        conv => whnf
        refine R_at ?_ ?_ (hR 8 (by omega) (by omega))
        · kernel_rfl
        · show _ = [_, _, HO.row true 5 1 (bsA (outN v 7 ++ wordB (vw v 7) 4))]
          rw [wordB4, bsA_append (outN v 7) _]
          kernel_rfl
      · conv => whnf
        refine Eq.mp ?_ hQ
        kernel_rfl



def R149 : ShRel := fun args H o Hs => ∃ (s : V8) (l : List Int) (k : Nat), 64 * k ≤ l.length ∧ okB l ∧ l.length ≤ 1073741824 ∧ args = [.ptr 0 0] ∧
  H = [.var (c8 s ++ [restA l.length k, .int .u64 l.length]), .row (rowW k) 5 1 (bsA l)] ∧ o = .ret (.row 2) ∧
  Hs = [.var (c8 s ++ [restA l.length k, .int .u64 l.length]), .row (rowW k) 5 1 (bsA l), .row true 5 1 (bsA (outN (hashN s (tailB (l.drop (64 * k)) (8 * (l.length : Int))) ((tailB (l.drop (64 * k)) (8 * (l.length : Int))).length / 64)) 8))]
set_option maxRecDepth 100000 in
theorem s149 {T : Tab} (hT : TGood Tryz.prog T) : SGood Tryz.prog 167 (shapeT R149) := shapeT_good fun args H o Hs h => by
  obtain ⟨s, l, k, hk, hb, hl, rfl, rfl, rfl, rfl⟩ := h
  have hT2 := ext_good hT (s155 hT)
  rcases k with _ | k
  · exact abody_sound hT2.ok hT2.ang hT2.mono mixedT Tryz.func167 (entersOf Tryz.func167 (by kernel_rfl) rfl) (f149_E s l.length l hb hl hl T _ ⟨rfl, rfl⟩ (l.length + 73) (by omega))
  · exact abody_sound hT2.ok hT2.ang hT2.mono mixedT Tryz.func167 (entersOf Tryz.func167 (by kernel_rfl) rfl) (f149_F s l.length (l.drop (64 * (k + 1))) (64 * (k + 1)) (l.length - 64 * (k + 1)) l
      (by rw [← bsA_drop, List.take_of_length_le (by simp)]) (fun b hbb => hb b (List.mem_of_mem_drop hbb)) (by rw [List.length_drop]; omega) hl T _ ⟨rfl, rfl⟩ (l.length + 73) (by rw [List.length_drop]; omega))

end Go.Abs

