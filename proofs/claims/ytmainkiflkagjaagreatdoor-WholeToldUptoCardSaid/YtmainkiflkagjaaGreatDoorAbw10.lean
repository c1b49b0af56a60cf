/-
catenaryref01.GetInt is what it comes to.
-/
import Derived.Test.YtmainkiflkagjaaGreatDoorAbw9
import Derived.Test.YtmainkiflkagjaaGreatDoorAbw8
namespace Go.Abs
open Go Go.Proofs

theorem encF_le : ∀ (k f : Nat) (n : Int), n < 128 ^ (k + 1) → (encF f n).length ≤ k + 1
  | _, 0, n, _ => by simp [encF]
  | 0, f + 1, n, h => by
    have : n < 128 := by simpa using h
    simp [encF, this]
  | k + 1, f + 1, n, h => by
    unfold encF
    split
    · simp
    · have := encF_le k f (n / 128) (by rw [Int.pow_succ] at h; omega)
      simp only [List.length_cons]
      omega
theorem encF_ge : ∀ (k f : Nat) (n : Int), k < f → 128 ^ k ≤ n → k + 1 ≤ (encF f n).length
  | 0, f + 1, n, _, h => by unfold encF; split <;> simp
  | k + 1, f + 1, n, hf, h => by
    have h1 : 0 < (128 : Int) ^ k := Int.pow_pos (by decide)
    unfold encF
    rw [Int.pow_succ] at h
    rw [if_neg (by omega)]
    have := encF_ge k f (n / 128) (by omega) (by omega)
    simp only [List.length_cons]
    omega

set_option maxRecDepth 100000 in
set_option maxHeartbeats 4000000 in
theorem f112_ok (l : List Int) (at_ : Int) (hb : okB l) (hl : l.length ≤ 1099511627776) (T : Tab) (Q : AOut → Prop) (hQ : Q (.ret (.tuple [.int .i64 (dN l at_), .int .i64 (dX l at_), .int .i64 (dE l at_)]))) (N : Nat) (hN : 6 < N) :
    abody Tryz.prog (ext T 136 (freshT g84)) 0 N Tryz.f150 [.slice (bsA l), .int .i64 at_] [] (fun out Hs => Q (frzO Hs out)) := by
  have bad : decI l at_ = none → Q (.ret (.tuple [.int .i64 0, .int .i64 0, .int .i64 11])) := fun h => by simpa [dN, dX, dE, h] using hQ
  conv => whnf
  split
  · rename_i h1; have h1 : at_ < 0 := of_decide_eq_true h1
    refine Eq.mp ?_ (bad (by simp [decI, h1]))
    kernel_rfl
  rename_i h1; have h1 : ¬ at_ < 0 := of_decide_eq_false h1
  conv => whnf
  split
  · rename_i h2; have h2 : at_ > (bsA l).length := of_decide_eq_true h2
    rw [bsA_length] at h2
    refine Eq.mp ?_ (bad (by simp [decI, h2]))
    kernel_rfl
  rename_i h2; have h2 : ¬ at_ > (bsA l).length := of_decide_eq_false h2
  rw [bsA_length] at h2
  obtain ⟨r, hr⟩ : ∃ r, r = (l.drop at_.toNat).take 5 := ⟨_, rfl⟩
  have hdec : decI l at_ = (decF 0 0 r).map fun x => (x.1, at_ + x.2) := by
    rw [hr, decI, if_neg (by omega)]
  have hrl : r.length = min 5 (l.length - at_.toNat) := by rw [hr]; simp
  have hrb : okB r := fun b hbb => hb b (by rw [hr] at hbb; exact List.mem_of_mem_drop (List.mem_of_mem_take hbb))
  conv => whnf
  refine aloop_at ?_ ?_ (aloop_inv (σ := Nat × Int) (fun s => ((sp 0 69 [(0, .slice (bsA l)), (1, .int .i64 at_), (7, .int .i64 (s.2)), (8, .int .i64 (128 ^ s.1)), (9, .int .i64 (at_ + s.1))]), []))
    (fun s => s.1 ≤ r.length ∧ 0 ≤ s.2 ∧ s.2 < 128 ^ s.1 ∧ decF 0 0 r = decF s.1 s.2 (r.drop s.1)) (fun s => r.length - s.1) ?_ N (0, 0) ⟨Nat.zero_le _, by simp, by simp, rfl⟩ (by dsimp only; omega))
  · have : at_ = at_ + ((0 : Nat) : Int) := by simp
    exact (congrArg (fun x : Int => (sp 0 69 [(0, .slice (bsA l)), (1, .int .i64 at_), (7, .int .i64 (0)), (8, .int .i64 (1)), (9, .int .i64 (x))])) this)
  · kernel_rfl
  rintro ⟨i, n⟩ ⟨i1, i2, i3, i4⟩ R hR
  dsimp only at i1 i2 i3 i4
  have none_of : r.length ≤ i → decI l at_ = none := fun h => by rw [hdec, i4, List.drop_of_length_le h]; rfl
  have hsub : IntKind.i64.wrap (at_ + ((i, n).fst : Int) - at_) = (i : Int) := by dsimp only; rw [IntWalk.i64_in _ (by omega)]; omega
  conv => whnf
  split
  rotate_left
  · rename_i h3; have h3 : ¬ at_ + (i : Int) < (bsA l).length := of_decide_eq_false h3
    rw [bsA_length] at h3
    refine Eq.mp ?_ (bad (none_of (by omega)))
    kernel_rfl
  rename_i h3; have h3 : at_ + (i : Int) < (bsA l).length := of_decide_eq_true h3
  rw [bsA_length] at h3
  conv => whnf
  rw [hsub]
  split
  rotate_left
  · rename_i h4; have h4 : ¬ (i : Int) < 5 := of_decide_eq_false h4
    refine Eq.mp ?_ (bad (none_of (by omega)))
    kernel_rfl
  rename_i h4; have h4 : (i : Int) < 5 := of_decide_eq_true h4
  obtain ⟨c, rest, hc⟩ : ∃ c rest, r.drop i = c :: rest := ⟨r[i]'(by omega), r.drop (i + 1), List.drop_eq_getElem_cons (by omega)⟩
  have hget : r[i]? = some c := by have := congrArg (·[0]?) hc; simpa [List.getElem?_drop] using this
  have hcb := hrb c (List.mem_of_getElem? hget)
  have hgl : l[(at_ + (i : Int)).toNat]? = some c := by
    rw [hr, List.getElem?_take_of_lt (by omega), List.getElem?_drop] at hget
    rw [← hget]; congr 1; omega
  have hel : (bsA l)[(at_ + (i : Int)).toNat]? = some [.int .u8 c] := by simp [bsA, hgl]
  conv => whnf
  refine ⟨by dsimp only; omega, by rw [bsA_length]; dsimp only; omega, [.int .u8 c], hel, by kernel_rfl, ?_⟩
  conv => whnf
  refine ⟨by dsimp only; omega, by rw [bsA_length]; dsimp only; omega, [.int .u8 c], hel, by kernel_rfl, ?_⟩
  conv => whnf
  have hp0 : (0 : Int) ≤ 128 ^ i := Int.pow_nonneg (by decide)
  have hp4 : (128 : Int) ^ i ≤ 128 ^ 4 := by exact_mod_cast (Nat.pow_le_pow_right (by decide) (by omega) : (128 : Nat) ^ i ≤ 128 ^ 4)
  have hm0 : 0 ≤ (c % 128) * 128 ^ i := Int.mul_nonneg (by omega) hp0
  have hm1 : (c % 128) * 128 ^ i ≤ 127 * 128 ^ i := Int.mul_le_mul_of_nonneg_right (by omega) hp0
  have hn : IntKind.i64.wrap ((i, n).snd + IntKind.i64.wrap (IntKind.i64.wrap (c.tmod 128) * 128 ^ (i, n).fst)) = n + (c % 128) * 128 ^ i := by
    dsimp only
    rw [Int.tmod_eq_emod_of_nonneg hcb.1, IntWalk.i64_in (c % 128) (by omega), IntWalk.i64_in (c % 128 * 128 ^ i) (by omega), IntWalk.i64_in _ (by omega)]
  have hw : IntKind.i64.wrap (128 ^ (i, n).fst * 128) = 128 ^ (i + 1) := by
    dsimp only
    rw [IntWalk.i64_in _ (by omega), Int.pow_succ]
  have hix : IntKind.i64.wrap (at_ + ((i, n).fst : Int) + 1) = at_ + ((i + 1 : Nat) : Int) := by dsimp only; rw [IntWalk.i64_in _ (by omega)]; omega
  have hdc : decF i n (r.drop i) = if c < 128 then (if n + (c % 128) * 128 ^ i > 2147483647 ∨ (c = 0 ∧ 0 < i) then none else some (n + (c % 128) * 128 ^ i, i + 1)) else decF (i + 1) (n + (c % 128) * 128 ^ i) rest := by rw [hc]; rfl
  split
  · rename_i h5; have h5 : c ≥ 128 := of_decide_eq_true h5
    rw [if_neg (by omega)] at hdc
    conv => whnf
    refine R_at ?_ ?_ (hR (i + 1, n + (c % 128) * 128 ^ i) ⟨by dsimp only; omega, by dsimp only; omega, ?_, ?_⟩ (by dsimp only; omega))
    · rw [← hn, ← hix]
      dsimp only
      rw [← hw]
      kernel_rfl
    · kernel_rfl
    · dsimp only
      rw [Int.pow_succ]
      omega
    · dsimp only
      rw [i4, hdc]
      congr 1
      have := congrArg (List.drop 1) hc
      simpa [List.drop_drop, Nat.add_comm] using this.symm
  rename_i h5; have h5 : ¬ c ≥ 128 := of_decide_eq_false h5
  rw [if_pos (by omega)] at hdc
  conv => whnf
  rw [hn]
  split
  rotate_left
  · rename_i h6
    have h6 : n + (c % 128) * 128 ^ i > 2147483647 := by simp [okI] at h6; omega
    refine Eq.mp ?_ (bad (by rw [hdec, i4, hdc, if_pos (.inl h6)]; rfl))
    kernel_rfl
  rename_i h6
  have h6 : ¬ n + (c % 128) * 128 ^ i > 2147483647 := by simp [okI] at h6; omega
  have hlen : (encI (n + (c % 128) * 128 ^ i)).length = i + 1 ↔ ¬ (c = 0 ∧ 0 < i) := by
    by_cases hc0 : c = 0
    · subst hc0
      simp only [Int.zero_emod, Int.zero_mul, Int.add_zero]
      rcases Nat.eq_zero_or_pos i with hi0 | hi0
      · subst hi0
        have : n < 128 := by simp at i3; omega
        simp [encI_small this]
      · obtain ⟨j, rfl⟩ : ∃ j, i = j + 1 := ⟨i - 1, by omega⟩
        have h9 : (encI n).length ≤ j + 1 := encF_le j 6 n i3
        exact ⟨fun h => absurd h (by omega), fun h => absurd ⟨trivial, by omega⟩ h⟩
    · have h7 : 128 ^ i ≤ (c % 128) * 128 ^ i := by
        have := Int.mul_le_mul_of_nonneg_right (show 1 ≤ c % 128 by omega) hp0
        omega
      have h8 := encF_ge i 6 (n + (c % 128) * 128 ^ i) (by omega) (by omega)
      have h9 := encF_le i 6 (n + (c % 128) * 128 ^ i) (by rw [Int.pow_succ]; omega)
      simp only [encI]
      omega
  conv => whnf
  have hsub2 : IntKind.i64.wrap (IntKind.i64.wrap (at_ + ((i, n).fst : Int) - at_) + 1) = ((i + 1 : Nat) : Int) := by rw [hsub, IntWalk.i64_in _ (by omega)]; omega
  rw [hsub2]
  split
  · rename_i h7
    have h7 : ((bsA (encI (n + (c % 128) * 128 ^ i))).length : Int) ≠ ((i + 1 : Nat) : Int) := bne_iff_ne.1 h7
    rw [bsA_length] at h7
    have h8 : c = 0 ∧ 0 < i := Classical.not_not.1 fun h => h7 (by rw [hlen.2 h])
    refine Eq.mp ?_ (bad (by rw [hdec, i4, hdc, if_pos (.inr h8)]; rfl))
    kernel_rfl
  rename_i h7
  have h7 : ¬ ((bsA (encI (n + (c % 128) * 128 ^ i))).length : Int) ≠ ((i + 1 : Nat) : Int) := fun h => by rw [bne_iff_ne.2 h] at h7; cases h7
  rw [bsA_length] at h7
  have h8 : ¬ (c = 0 ∧ 0 < i) := hlen.1 (by omega)
  have hd : decI l at_ = some (n + (c % 128) * 128 ^ i, at_ + ((i + 1 : Nat) : Int)) := by rw [hdec, i4, hdc, if_neg (by rintro (h | h) <;> contradiction)]; rfl
  have hQ' : Q (.ret (.tuple [.int .i64 (n + (c % 128) * 128 ^ i), .int .i64 (at_ + ((i + 1 : Nat) : Int)), .int .i64 0])) := by simpa [dN, dX, dE, hd] using hQ
  rw [← hix] at hQ'
  refine Eq.mp ?_ hQ'
  kernel_rfl

set_option maxRecDepth 100000 in
theorem s112 {T : Tab} (hT : TGood Tryz.prog T) : SGood Tryz.prog 150 (flatT g101) := flatT_good g101_det g101_flat fun args Q h => by
  unfold g101 at h
  split at h
  · obtain ⟨l, rfl, hb, hl, hQ⟩ := h
    exact body_pure (ext_good hT (s95 hT)) mixedT Tryz.func150 (entersOf Tryz.func150 (by kernel_rfl) rfl) 7 (f112_ok l _ hb hl T Q hQ 7 (by decide))
  · exact h.elim

end Go.Abs

/-
octet.GetBytes and catenaryref01.GetBytes are what they come to.
-/
namespace Go.Abs
open Go Go.Proofs

def decB (l : List Int) (a most : Int) : Option (List Int × Int) := match decI l a with
  | some (n, x) => if n > most ∨ n > l.length - x then none else some ((l.drop x.toNat).take n.toNat, x + n)
  | none => none
def bP (l : List Int) (a most : Int) : List Int := match decB l a most with | some x => x.1 | none => []
def bX (l : List Int) (a most : Int) : Int := match decB l a most with | some x => x.2 | none => 0
def bE (l : List Int) (a most : Int) : Int := match decB l a most with | some _ => 0 | none => 11

theorem decF_range : ∀ (r : List Int) (i : Nat) (n : Int) (x : Int × Nat), okB r → 0 ≤ n → decF i n r = some x → 0 ≤ x.1 ∧ x.1 ≤ 2147483647 ∧ x.2 ≤ i + r.length
  | [], i, n, x, _, _, h => by simp [decF] at h
  | c :: r, i, n, x, hb, hn, h => by
    have hc := hb c List.mem_cons_self
    have h0 : 0 ≤ (c % 128) * 128 ^ i := Int.mul_nonneg (by omega) (Int.pow_nonneg (by decide))
    unfold decF at h
    split at h
    · split at h
      · cases h
      · rename_i h2
        cases h
        exact ⟨by dsimp only; omega, by dsimp only; omega, by simp <;> omega⟩
    · have := decF_range r (i + 1) _ x (fun b hb' => hb b (List.mem_cons_of_mem _ hb')) (by omega) h
      simp only [List.length_cons]
      omega
theorem decI_range {l : List Int} (hb : okB l) {a : Int} {x : Int × Int} (h : decI l a = some x) : 0 ≤ a ∧ 0 ≤ x.1 ∧ x.1 ≤ 2147483647 ∧ 0 ≤ x.2 ∧ x.2 ≤ l.length := by
  unfold decI at h
  split at h
  · cases h
  · rename_i h2
    rw [Option.map_eq_some_iff] at h
    obtain ⟨y, hy, rfl⟩ := h
    have := decF_range _ 0 0 y (fun b hbb => hb b (List.mem_of_mem_drop (List.mem_of_mem_take hbb))) (by omega) hy
    simp only [List.length_take, List.length_drop] at this
    dsimp only
    omega

def g130 : GSpec := fun args K => match args with
  | [.slice es, .int .i64 a, .int .i64 m] => ∃ l : List Int, es = bsA l ∧ okB l ∧ l.length ≤ 1099511627776 ∧ K (.ret (.tuple [.slice (bsA (bP l a m)), .int .i64 (bX l a m), .int .i64 (bE l a m)]))
  | _ => False
theorem g130_det (args : List AV) : Det (g130 args) := by
  unfold g130
  repeat' (first | exact Det.no | exact Det.at _ | refine Det.and ?_ | refine Det.ex fun _ => ?_ | refine Det.cond ?_ ?_ | split)



set_option maxRecDepth 100000 in
set_option maxHeartbeats 4000000 in
theorem f130_ok (l : List Int) (a m : Int) (hb : okB l) (hl : l.length ≤ 1099511627776) (T : Tab) (Q : AOut → Prop) (hQ : Q (.ret (.tuple [.slice (bsA (bP l a m)), .int .i64 (bX l a m), .int .i64 (bE l a m)]))) (N : Nat) :
    abody Tryz.prog (ext (ext T 109 (pureT g83)) 96 (flatT g101)) 0 N Tryz.f143 [.slice (bsA l), .int .i64 a, .int .i64 m] [] (fun out Hs => Q (frzO Hs out)) := by
  have bad : decB l a m = none → Q (.ret (.tuple [.slice [], .int .i64 0, .int .i64 11])) := fun h => by
    have e : bsA ([] : List Int) = [] := rfl
    simpa [bP, bX, bE, h, e] using hQ
  cases hd : decI l a with
  | none =>
    have e1 : dN l a = 0 := by simp [dN, hd]
    have e2 : dX l a = 0 := by simp [dX, hd]
    have e3 : dE l a = 11 := by simp [dE, hd]
    have := bad (by simp [decB, hd])
    conv => whnf
    refine ⟨l, rfl, hb, hl, ?_⟩
    rw [e1, e2, e3]
    refine Eq.mp ?_ this
    kernel_rfl
  | some y =>
    obtain ⟨n, x⟩ := y
    have e1 : dN l a = n := by simp [dN, hd]
    have e2 : dX l a = x := by simp [dX, hd]
    have e3 : dE l a = 0 := by simp [dE, hd]
    obtain ⟨r0, r1, r2, r3, r4⟩ := decI_range hb hd
    dsimp only at r0 r1 r2 r3 r4
    conv => whnf
    refine ⟨l, rfl, hb, hl, ?_⟩
    rw [e1, e2, e3]
    conv => whnf
    split
    · rename_i h1; have h1 : n > m := of_decide_eq_true h1
      refine Eq.mp ?_ (bad (by simp [decB, hd, h1]))
      kernel_rfl
    rename_i h1; have h1 : ¬ n > m := of_decide_eq_false h1
    conv => whnf
    have hw : IntKind.i64.wrap (((bsA l).length : Int) - x) = (l.length : Int) - x := by rw [bsA_length, IntWalk.i64_in _ (by omega)]
    rw [hw]
    split
    · rename_i h2; have h2 : n > (l.length : Int) - x := of_decide_eq_true h2
      refine Eq.mp ?_ (bad (by simp [decB, hd, h2]))
      kernel_rfl
    rename_i h2; have h2 : ¬ n > (l.length : Int) - x := of_decide_eq_false h2
    have hok : decB l a m = some ((l.drop x.toNat).take n.toNat, x + n) := by simp only [decB, hd]; rw [if_neg (by omega)]
    have hx : IntKind.i64.wrap (x + n) = x + n := by rw [IntWalk.i64_in _ (by omega)]
    have hcut : ((bsA l).drop x.toNat).take ((x + n).toNat - x.toNat) = bsA ((l.drop x.toNat).take n.toNat) := by
      rw [bsA, bsA, ← List.map_drop, ← List.map_take]
      congr 2
      omega
    have hQ' : Q (.ret (.tuple [.slice (bsA ((l.drop x.toNat).take n.toNat)), .int .i64 (x + n), .int .i64 0])) := by simpa [bP, bX, bE, hok] using hQ
    conv => whnf
    rw [hx]
    refine ⟨fun el hel => bsA_el hel, ⟨r3, by omega, by rw [bsA_length]; omega⟩, ?_⟩
    conv => whnf
    refine ⟨(l.drop x.toNat).take n.toNat, hcut, by simp; omega, ?_⟩
    conv => whnf
    rw [← hx] at hQ'
    refine Eq.mp ?_ hQ'
    kernel_rfl

set_option maxRecDepth 100000 in
theorem s130 {T : Tab} (hT : TGood Tryz.prog T) : SGood Tryz.prog 143 (pureT g130) := pureT_good g130_det fun args Q h => by
  unfold g130 at h
  split at h
  · obtain ⟨l, rfl, hb, hl, hQ⟩ := h
    exact body_pure (ext_good (ext_good hT (s83 hT)) (s101 (ext_good hT (s83 hT)))) mixedT Tryz.func143 (entersOf Tryz.func143 (by kernel_rfl) rfl) 0 (f130_ok l _ _ hb hl T Q hQ 0)
  · exact h.elim

set_option maxRecDepth 100000 in
set_option maxHeartbeats 4000000 in
theorem f133_ok (l : List Int) (a m : Int) (hb : okB l) (hl : l.length ≤ 1099511627776) (T : Tab) (Q : AOut → Prop) (hQ : Q (.ret (.tuple [.slice (bsA (bP l a m)), .int .i64 (bX l a m), .int .i64 (bE l a m)]))) (N : Nat) :
    abody Tryz.prog (ext T 150 (flatT g101)) 0 N Tryz.f168 [.slice (bsA l), .int .i64 a, .int .i64 m] [] (fun out Hs => Q (frzO Hs out)) := by
  have bad : decB l a m = none → Q (.ret (.tuple [.slice [], .int .i64 0, .int .i64 11])) := fun h => by
    have e : bsA ([] : List Int) = [] := rfl
    simpa [bP, bX, bE, h, e] using hQ
  cases hd : decI l a with
  | none =>
    have e1 : dN l a = 0 := by simp [dN, hd]
    have e2 : dX l a = 0 := by simp [dX, hd]
    have e3 : dE l a = 11 := by simp [dE, hd]
    have := bad (by simp [decB, hd])
    conv => whnf
    refine ⟨l, rfl, hb, hl, ?_⟩
    rw [e1, e2, e3]
    refine Eq.mp ?_ this
    kernel_rfl
  | some y =>
    obtain ⟨n, x⟩ := y
    have e1 : dN l a = n := by simp [dN, hd]
    have e2 : dX l a = x := by simp [dX, hd]
    have e3 : dE l a = 0 := by simp [dE, hd]
    obtain ⟨r0, r1, r2, r3, r4⟩ := decI_range hb hd
    dsimp only at r0 r1 r2 r3 r4
    conv => whnf
    refine ⟨l, rfl, hb, hl, ?_⟩
    rw [e1, e2, e3]
    conv => whnf
    split
    · rename_i h1; have h1 : n > m := of_decide_eq_true h1
      refine Eq.mp ?_ (bad (by simp [decB, hd, h1]))
      kernel_rfl
    rename_i h1; have h1 : ¬ n > m := of_decide_eq_false h1
    conv => whnf
    have hw : IntKind.i64.wrap (((bsA l).length : Int) - x) = (l.length : Int) - x := by rw [bsA_length, IntWalk.i64_in _ (by omega)]
    rw [hw]
    split
    · rename_i h2; have h2 : n > (l.length : Int) - x := of_decide_eq_true h2
      refine Eq.mp ?_ (bad (by simp [decB, hd, h2]))
      kernel_rfl
    rename_i h2; have h2 : ¬ n > (l.length : Int) - x := of_decide_eq_false h2
    have hok : decB l a m = some ((l.drop x.toNat).take n.toNat, x + n) := by simp only [decB, hd]; rw [if_neg (by omega)]
    have hx : IntKind.i64.wrap (x + n) = x + n := by rw [IntWalk.i64_in _ (by omega)]
    have hcut : ((bsA l).drop x.toNat).take ((x + n).toNat - x.toNat) = bsA ((l.drop x.toNat).take n.toNat) := by
      rw [bsA, bsA, ← List.map_drop, ← List.map_take]
      congr 2
      omega
    have hQ' : Q (.ret (.tuple [.slice (bsA ((l.drop x.toNat).take n.toNat)), .int .i64 (x + n), .int .i64 0])) := by simpa [bP, bX, bE, hok] using hQ
    conv => whnf
    rw [hx]
    refine ⟨fun el hel => bsA_el hel, ⟨r3, by omega, by rw [bsA_length]; omega⟩, ?_⟩
    conv => whnf
    rw [show cutList (bsA l) (Option.map Int.toNat (some x)) (Option.map Int.toNat (some (x + n))) = bsA ((l.drop x.toNat).take n.toNat) from hcut]
    refine ⟨fits_bs (by simp; omega), ?_⟩
    conv => whnf
    rw [← hx] at hQ'
    refine Eq.mp ?_ hQ'
    kernel_rfl

set_option maxRecDepth 100000 in
theorem s133 {T : Tab} (hT : TGood Tryz.prog T) : SGood Tryz.prog 168 (pureT g130) := pureT_good g130_det fun args Q h => by
  unfold g130 at h
  split at h
  · obtain ⟨l, rfl, hb, hl, hQ⟩ := h
    exact body_pure (ext_good hT (s112 hT)) mixedT Tryz.func168 (entersOf Tryz.func168 (by kernel_rfl) rfl) 0 (f133_ok l _ _ hb hl T Q hQ 0)
  · exact h.elim

end Go.Abs

/-
An abstract machine over values as trees: methods of a reader (bytes and a place).
-/
namespace Go.Abs
open Go
variable {P : Program}

def rvar (l : List Int) (a : Int) : HO := .var [.slice (bsA l), .int .i64 a]
/-- What a reader throws. -/
def eM : AV := .iface 35 (.int .i64 51)

theorem RV.slice_any {w w' : World} {M M' : Mut} (hcell : ∀ k i v, w.cell? ⟨k, i, none⟩ = some v → ¬ M k i → w'.cell? ⟨k, i, none⟩ = some v ∧ ¬ M' k i) {n n' : Nat} {G G' : Gh} {v : Value} {es : List (List AV)} (h : RV w M n G v (.slice es)) : RV w' M' n' G' v (.slice es) := by
  cases h with
  | slice0 => exact .slice0 ..
  | slice n G k off cap sz es f hsz hc hr hcap =>
    exact .slice _ _ k off cap sz es f hsz (fun i el j x h1 h2 => ⟨(hcell _ _ _ (hc i el j x h1 h2).1 (hc i el j x h1 h2).2.1).1, (hcell _ _ _ (hc i el j x h1 h2).1 (hc i el j x h1 h2).2.1).2, (hc i el j x h1 h2).2.2⟩)
      (fun i el j x h1 h2 => (hr i el j x h1 h2).mono hcell (Nat.le_refl _) (fun _ _ _ h => h)) hcap

theorem frzA_var {b : Nat} {cs : List AV} (x : AV) (H : Heap) (h : H[b]? = some (.var cs)) : (frzA H x).2[b]? = some (.var cs) := by
  cases x with
  | agg cs => exact frzs_var cs H h
  | _ => exact frz_var h _

/-- One object stays; what else was made is handed out frozen. -/
theorem froz1_ok {f : FuncId} {args : List AV} {l : List Int} {a : Int} {Q : AOut → Int → Prop}
    (h : FOK P f args [rvar l a] fun out Hs => ∃ a', Hs[0]? = some (rvar l a') ∧ Q (frzO Hs out) a') : FOK P f args [rvar l a] fun out Hs => ∃ a', Hs = [rvar l a'] ∧ Q out a' := by
  refine ⟨h.1, fun Mx G w cargs hs ht => (h.2 Mx G w cargs hs ht).mono fun e w' ⟨out, Hs, G', h1, h2, h3, a', h0, hq⟩ => ?_⟩
  -- what is left
  have key : ∀ H2 : Heap, Sim Mx G' H2 w' → Step Hs.length Mx G' Hs w' G' H2 w' → H2[0]? = some (rvar l a') → ∀ (vs : List (Value × AV)), (∀ p ∈ vs, RV w' (MM Mx G' H2) 0 G0 p.1 p.2) →
      ∃ Gn, Step 1 Mx G [rvar l a] w Gn [rvar l a'] w' ∧ Sim Mx Gn [rvar l a'] w' ∧ ∀ p ∈ vs, RV w' (MM Mx Gn [rvar l a']) 1 Gn p.1 p.2 := by
    intro H2 k1 k2 k0 vs hvs
    let Gn : Gh := fun b => if b = 0 then G' 0 else none
    have hMM : ∀ k i, MM Mx Gn [rvar l a'] k i → MM Mx G' H2 k i := by
      rintro k i (hx | ⟨b, l0, o, g1, g2, g3, g4⟩)
      · exact .inl hx
      · by_cases hb : b = 0
        · subst hb
          cases g2
          exact .inr ⟨0, l0, _, g1, k0, g3, g4⟩
        · simp [Gn, hb] at g1
    have hst := h1.trans (by have := h1.len.2; exact this) k2
    have hcell : ∀ k i v, w'.cell? ⟨k, i, none⟩ = some v → ¬ MM Mx G' H2 k i → w'.cell? ⟨k, i, none⟩ = some v ∧ ¬ MM Mx Gn [rvar l a'] k i := fun k i v g1 g2 => ⟨g1, fun hm => g2 (hMM k i hm)⟩
    refine ⟨Gn, ⟨hst.os, hst.tape, hst.output, hst.size, ⟨by simp, by simp⟩, hst.far, fun k i v g1 g2 => ?_, fun b l0 hb hg => ?_, fun b l0 k hg hk => ?_⟩, ⟨fun b l0 hg => ?_, fun b o ho => ?_, fun b b' l1 l2 k g1 g2 g3 g4 => ?_, fun b l0 k i hg => ?_, k1.lt⟩, fun p hp => (hvs p hp).lift.mono hcell (Nat.le_refl _) (fun _ _ _ h => h)⟩
    · obtain ⟨m1, m2⟩ := hst.still k i v g1 g2
      exact ⟨m1, fun hm => m2 (hMM k i hm)⟩
    · have : b = 0 := by simpa using hb
      subst this
      exact hst.gh 0 l0 (by simp) hg
    · by_cases hb : b = 0
      · subst hb; exact hst.new 0 l0 k hg hk
      · simp [Gn, hb] at hg
    · by_cases hb : b = 0
      · subst hb; simp
      · simp [Gn, hb] at hg
    · match b, ho with
      | 0, ho =>
        cases ho
        have := k1.obj 0 _ k0
        show ObjR w' (MM Mx Gn [rvar l a']) 1 Gn (G' 0) (rvar l a')
        obtain ⟨k, cv, t, e1, e2, e3, e4⟩ := this
        refine ⟨k, cv, t, e1, e2, e3, fun i v x g1 g2 => ?_⟩
        obtain ⟨c1, c2⟩ := e4 i v x g1 g2
        refine ⟨c1, ?_⟩
        match i, g2 with
        | 0, g2 => cases g2; exact c2.slice_any hcell
        | 1, g2 => cases g2; rw [c2.int_inv]; exact .int ..
        | i + 2, g2 => simp at g2
      | b + 1, ho => simp at ho
    · by_cases hb : b = 0 <;> by_cases hb' : b' = 0
      · omega
      · simp [Gn, hb'] at g2
      · simp [Gn, hb] at g1
      · simp [Gn, hb] at g1
    · by_cases hb : b = 0
      · subst hb; exact k1.ext 0 l0 k i hg
      · simp [Gn, hb] at hg
  cases h3 with
  | pan v x hr =>
    have hp : frzO Hs (.pan x) = .pan (cond (flat x) x .any) := rfl
    rw [hp] at hq
    obtain ⟨Gn, m1, m2, _⟩ := key Hs h2 Step.refl h0 [] (fun _ hp => by cases hp)
    refine ⟨_, _, Gn, m1, m2, ?_, a', rfl, hq⟩
    cases hf : flat x with
    | true => exact .pan v x (hr.flat hf)
    | false => exact .pan v _ (.any ..)
  | ret v x hr =>
    have one : frzO Hs (.ret x) = .ret (frzA Hs x).1 → ∃ out H3 G3, Step 1 Mx G [rvar l a] w G3 H3 w' ∧ Sim Mx G3 H3 w' ∧ ER w' (MM Mx G3 H3) H3.length G3 (.returned v) out ∧ ∃ a', H3 = [rvar l a'] ∧ Q out a' := fun he => by
      rw [he] at hq
      obtain ⟨k1, k2, k3, k4⟩ := frzA_sound h2 hr
      obtain ⟨Gn, m1, m2, m3⟩ := key _ k1 k2 (frzA_var x Hs h0) [(v, (frzA Hs x).1)] (fun p hp => by
        simp only [List.mem_singleton] at hp
        subst hp
        exact k4)
      exact ⟨_, _, Gn, m1, m2, .ret _ _ (m3 (v, (frzA Hs x).1) (by simp)), a', rfl, hq⟩
    cases x with
    | tuple xs =>
      obtain ⟨cs, rfl, hl, hc⟩ := hr.tuple_inv
      obtain ⟨k1, k2, k3, k4, k5⟩ := frzAs_sound xs Hs cs.toList h2 (by simpa using hl) (fun i v x e1 e2 => hc i v x (by simpa using e1) e2)
      obtain ⟨Gn, m1, m2, m3⟩ := key _ k1 k2 (frzAs_var xs Hs h0) (cs.toList.zip (frzAs Hs xs).1) (fun p hp => by
        obtain ⟨i, hi⟩ := List.mem_iff_getElem?.1 hp
        rw [List.getElem?_zip_eq_some] at hi
        exact k5 i _ _ hi.1 hi.2)
      refine ⟨.ret (.tuple (frzAs Hs xs).1), _, Gn, m1, m2, .ret _ _ (.tuple _ _ _ _ (by rw [k4]; exact hl) fun i v y e1 e2 => ?_), a', rfl, hq⟩
      refine m3 (v, y) ?_
      exact List.mem_of_getElem? (i := i) (List.getElem?_zip_eq_some.2 ⟨by simpa using e1, e2⟩)
    | _ => exact one rfl

/-! ### Trees without objects -/
mutual
def closed : AV → Bool
  | .any | .bool _ | .int .. | .str _ | .nilptr | .nilmap | .nilfunc | .nilIface | .zslice | .slice _ | .eptr _ => true
  | .iface _ v => closed v
  | .agg cs => closeds cs
  | .tuple vs => closeds vs
  | _ => false
def closeds : List AV → Bool
  | [] => true
  | v :: r => closed v && closeds r
end
mutual
theorem ren_closed (ρ : Nat → Option Nat) : ∀ v : AV, closed v = true → ren ρ v = v
  | .iface t x, h => by simp only [closed] at h; simp only [ren, ren_closed ρ x h]
  | .agg cs, h => by simp only [closed] at h; simp only [ren, renL_closed ρ cs h]
  | .tuple cs, h => by simp only [closed] at h; simp only [ren, renL_closed ρ cs h]
  | .any, _ | .bool _, _ | .int .., _ | .str _, _ | .nilptr, _ | .nilmap, _ | .nilfunc, _ | .nilIface, _ | .zslice, _ | .slice _, _ | .eptr _, _ => by simp only [ren]
  | .ptr .., h | .rptr .., h | .row _, h | .srow .., h | .vsl .., h | .map _, h | .func .., h => by simp [closed] at h
theorem renL_closed (ρ : Nat → Option Nat) : ∀ l : List AV, closeds l = true → renL ρ l = l
  | [], _ => by simp only [renL]
  | v :: r, h => by
    simp only [closeds, Bool.and_eq_true] at h
    simp only [renL, ren_closed ρ v h.1, renL_closed ρ r h.2]
end

/-! ### Reading -/
/-- What is read at a place: nothing (it throws), or a value; the place behind. -/
abbrev RM (α : Type) := Int → Option α × Int
def RM.bind {α β : Type} (m : RM α) (f : α → RM β) : RM β := fun a => match m a with
  | (some x, a') => f x a'
  | (none, a') => (none, a')
def RM.pure {α : Type} (x : α) : RM α := fun a => (some x, a)
def RM.map {α β : Type} (f : α → β) (m : RM α) : RM β := fun a => match m a with
  | (some x, a') => (some (f x), a')
  | (none, a') => (none, a')
def rNum (l : List Int) : RM Int := fun a => match decI l a with
  | some (n, x) => (some n, x)
  | none => (none, a)

def rK (r : Option AV × Int) (ok : AV → Int → Prop) (bad : Int → Prop) : Prop := match r with
  | (some v, a) => ok v a
  | (none, a) => bad a
theorem rK_det {r : Option AV × Int} {K : AOut → Int → Prop} (h : rK r (fun v a => K (.ret v) a) (fun a => K (.pan eM) a)) : ∃ o a, rK r (fun v a' => .ret v = o ∧ a' = a) (fun a' => .pan eM = o ∧ a' = a) ∧ K o a := by
  obtain ⟨v, a⟩ := r
  cases v with
  | some v => exact ⟨_, _, ⟨rfl, rfl⟩, h⟩
  | none => exact ⟨_, _, ⟨rfl, rfl⟩, h⟩
theorem rK_mono {r : Option AV × Int} {ok ok' : AV → Int → Prop} {bad bad' : Int → Prop} (h1 : ∀ v a, ok v a → ok' v a) (h2 : ∀ a, bad a → bad' a) (h : rK r ok bad) : rK r ok' bad' := by
  obtain ⟨v, a⟩ := r
  cases v with
  | some v => exact h1 _ _ h
  | none => exact h2 _ h

structure OkL (l : List Int) : Prop where
  b : okB l
  len : l.length ≤ 1099511627776

/-- Contracts of a reader's methods. -/
def readerT (g : List Int → RM AV) : Spec := fun args H Q => match args with
  | [.ptr p o] => match o, H[p]? with
    | 0, some (.var [.slice es, .int .i64 a]) => ∃ l, es = bsA l ∧ OkL l ∧ rK (g l a) (fun v a' => Q (.ret v) (H.set p (rvar l a'))) (fun a' => Q (.pan eM) (H.set p (rvar l a')))
    | _, _ => False
  | _ => False
theorem readerT_inv {g : List Int → RM AV} {args : List AV} {H : Heap} {Q : AOut → Heap → Prop} (h : readerT g args H Q) :
    ∃ p l a, args = [.ptr p 0] ∧ H[p]? = some (rvar l a) ∧ OkL l ∧ rK (g l a) (fun v a' => Q (.ret v) (H.set p (rvar l a'))) (fun a' => Q (.pan eM) (H.set p (rvar l a'))) := by
  unfold readerT at h
  split at h
  case h_2 => exact h.elim
  split at h
  case h_2 => exact h.elim
  rename_i hp
  obtain ⟨l, rfl, hl, h⟩ := h
  exact ⟨_, l, _, rfl, hp, hl, h⟩
theorem readerT_mk {g : List Int → RM AV} {p : Nat} {l : List Int} {a : Int} {H : Heap} {Q : AOut → Heap → Prop} (hp : H[p]? = some (rvar l a)) (hl : OkL l)
    (h : rK (g l a) (fun v a' => Q (.ret v) (H.set p (rvar l a'))) (fun a' => Q (.pan eM) (H.set p (rvar l a')))) : readerT g [.ptr p 0] H Q := by
  unfold readerT
  simp only [hp, rvar]
  exact ⟨l, rfl, hl, h⟩

theorem reader_ok {f : FuncId} {l : List Int} {a : Int} {r : Option AV × Int} {ys : Nat → List AV} (hys : ∀ ρ b, ρ b = some 0 → renL ρ (ys b) = ys 0) (hc : ∀ v a', r = (some v, a') → closed v = true)
    (h : ∀ Q : AOut → Int → Prop, rK r (fun v a' => Q (.ret v) a') (fun a' => Q (.pan eM) a') → FOK P f (.ptr 0 0 :: ys 0) [rvar l a] fun out Hs => ∃ a', Hs = [rvar l a'] ∧ Q out a')
    {p : Nat} {H : Heap} {Q : AOut → Heap → Prop} (hp : H[p]? = some (rvar l a)) (hQ : rK r (fun v a' => Q (.ret v) (H.set p (rvar l a'))) (fun a' => Q (.pan eM) (H.set p (rvar l a')))) : FOK P f (.ptr p 0 :: ys p) H Q := by
  have hpl : p < H.length := (List.getElem?_eq_some_iff.1 hp).1
  have i0 : ([p] : List Nat).idxOf? p = some 0 := by simp [List.idxOf?, List.findIdx?_cons]
  refine sub_call (ids := [p]) (by simp) (fun x hx => by simp at hx; subst hx; assumption) ?_
  have e1 : renL (([p] : List Nat).idxOf? ·) (.ptr p 0 :: ys p) = .ptr 0 0 :: ys 0 := by
    simp only [renL, ren, i0, hys (([p] : List Nat).idxOf? ·) p i0]
  have e2 : subH H [p] = [rvar l a] := by
    simp only [subH, List.map_cons, List.map_nil, List.getD_eq_getElem?_getD, hp, Option.getD_some, rvar, renH, renL, ren]
  rw [e1, e2]
  have hm : ∀ a', mergeH H [p] [rvar l a'] = H.set p (rvar l a') := fun a' => by
    unfold mergeH
    simp only [List.length_cons, List.length_nil, Nat.zero_add, List.drop_succ_cons, List.drop_nil, List.map_nil, List.append_nil]
    refine List.ext_getElem? fun i => ?_
    rw [List.getElem?_map, List.getElem?_zipIdx]
    by_cases hib : i = p
    · subst hib
      rw [List.getElem?_set_self hpl, hp]
      simp only [Option.map_some, Nat.zero_add, i0, List.getD_cons_zero, rvar, renH, renL, ren]
    · rw [List.getElem?_set_ne (fun e => hib e.symm)]
      cases hi : H[i]? with
      | none => rfl
      | some o => simp [show ¬ p = i from fun e => hib e.symm]
  refine (h (fun out a' => (∃ v, r = (some v, a') ∧ out = .ret v) ∨ (r = (none, a') ∧ out = .pan eM)) ?_).imp fun out Hs ⟨a', e3, e4⟩ => ?_
  · obtain ⟨v, b⟩ := r
    cases v with
    | some v => exact .inl ⟨v, rfl, rfl⟩
    | none => exact .inr ⟨rfl, rfl⟩
  · subst e3
    rw [hm]
    rcases e4 with ⟨v, e5, rfl⟩ | ⟨e5, rfl⟩
    · rw [e5] at hQ
      simp only [outR, ren_closed _ v (hc v a' e5)]
      exact hQ
    · rw [e5] at hQ
      simp only [outR, ren_closed _ eM rfl]
      exact hQ

theorem readerT_good {f : FuncId} {g : List Int → RM AV} (hc : ∀ l a v a', g l a = (some v, a') → closed v = true)
    (h : ∀ l a (Q : AOut → Int → Prop), OkL l → rK (g l a) (fun v a' => Q (.ret v) a') (fun a' => Q (.pan eM) a') → FOK P f [.ptr 0 0] [rvar l a] fun out Hs => ∃ a', Hs[0]? = some (rvar l a') ∧ Q (frzO Hs out) a') : SGood P f (readerT g) where
  ok := fun args H Q hg => by
    obtain ⟨p, l, a, rfl, hp, hl, hQ⟩ := readerT_inv hg
    exact reader_ok (ys := fun _ => []) (fun _ _ _ => rfl) (hc l a) (fun Q hq => froz1_ok (h l a Q hl hq)) hp hQ
  ang := fun args H K hg => by
    obtain ⟨p, l, a, rfl, hp, hl, hQ⟩ := readerT_inv hg
    obtain ⟨o, a', h1, h2⟩ := rK_det (K := fun o a' => K o (H.set p (rvar l a'))) hQ
    exact ⟨o, H.set p (rvar l a'), readerT_mk hp hl (rK_mono (fun v b hb => ⟨hb.1, by rw [hb.2]⟩) (fun b hb => ⟨hb.1, by rw [hb.2]⟩) h1), h2⟩
  mono := fun args H K K' hk hg => by
    obtain ⟨p, l, a, rfl, hp, hl, hQ⟩ := readerT_inv hg
    exact readerT_mk hp hl (rK_mono (fun v b hb => hk _ _ hb) (fun b hb => hk _ _ hb) hQ)

/-- Contracts of a reader's lists: each item is read by a method. -/
def readT (k : FuncId) (g : List Int → RM AV) : Spec := fun args H Q => match args with
  | [.ptr p o, .func (.func k') [.ptr p' o'] []] => cond (Nat.beq p' p && (Nat.beq o' 0 && Nat.beq k' k)) (readerT g [.ptr p o] H Q) False
  | _ => False
theorem readT_good {f k : FuncId} {g : List Int → RM AV} (hc : ∀ l a v a', g l a = (some v, a') → closed v = true)
    (h : ∀ l a (Q : AOut → Int → Prop), OkL l → rK (g l a) (fun v a' => Q (.ret v) a') (fun a' => Q (.pan eM) a') → FOK P f [.ptr 0 0, .func (.func k) [.ptr 0 0] []] [rvar l a] fun out Hs => ∃ a', Hs[0]? = some (rvar l a') ∧ Q (frzO Hs out) a') : SGood P f (readT k g) where
  ok := fun args H Q hg => by
    unfold readT at hg
    split at hg
    case h_2 => exact hg.elim
    rename_i p o k' p' o'
    replace hg := cond3 hg
    obtain ⟨e1, e2, e3, hg⟩ := hg
    subst e1 e2 e3
    obtain ⟨p1, l, a, hpp, hp, hl, hQ⟩ := readerT_inv hg
    obtain ⟨rfl, rfl⟩ : p1 = p' ∧ o = 0 := by
      simp only [List.cons.injEq, AV.ptr.injEq, and_true] at hpp
      exact ⟨hpp.1.symm, hpp.2⟩
    exact reader_ok (ys := fun b => [.func (.func k') [.ptr b 0] []]) (fun ρ b hb => by simp only [renL, ren, hb]) (hc l a) (fun Q hq => froz1_ok (h l a Q hl hq)) hp hQ
  ang := fun args H K hg => by
    unfold readT at hg
    split at hg
    case h_2 => exact hg.elim
    rename_i p o k' p' o'
    replace hg := cond3 hg
    obtain ⟨e1, e2, e3, hg⟩ := hg
    subst e1 e2 e3
    obtain ⟨p1, l, a, hpp, hp, hl, hQ⟩ := readerT_inv hg
    obtain ⟨rfl, rfl⟩ : p1 = p' ∧ o = 0 := by
      simp only [List.cons.injEq, AV.ptr.injEq, and_true] at hpp
      exact ⟨hpp.1.symm, hpp.2⟩
    obtain ⟨o, a', h1, h2⟩ := rK_det (K := fun o a' => K o (H.set p1 (rvar l a'))) hQ
    exact ⟨o, H.set p1 (rvar l a'), cond3i (readerT_mk hp hl (rK_mono (fun v b hb => ⟨hb.1, by rw [hb.2]⟩) (fun b hb => ⟨hb.1, by rw [hb.2]⟩) h1)), h2⟩
  mono := fun args H K K' hk hg => by
    unfold readT at hg
    split at hg
    case h_2 => exact hg.elim
    rename_i p o k' p' o'
    replace hg := cond3 hg
    obtain ⟨e1, e2, e3, hg⟩ := hg
    subst e1 e2 e3
    obtain ⟨p1, l, a, hpp, hp, hl, hQ⟩ := readerT_inv hg
    obtain ⟨rfl, rfl⟩ : p1 = p' ∧ o = 0 := by
      simp only [List.cons.injEq, AV.ptr.injEq, and_true] at hpp
      exact ⟨hpp.1.symm, hpp.2⟩
    exact cond3i (readerT_mk hp hl (rK_mono (fun v b hb => hk _ _ hb) (fun b hb => hk _ _ hb) hQ))

end Go.Abs

/-
(*msg.reader).must, num, text are what they come to.
-/
namespace Go.Abs
open Go Go.Proofs

def g102 : GSpec := fun args K => match args with
  | [_, .int .i64 e] => cond (e == 0) (K (.ret (.tuple []))) (K (.pan eM))
  | _ => False
theorem g102_det (args : List AV) : Det (g102 args) := by
  unfold g102
  repeat' (first | exact Det.no | exact Det.at _ | refine Det.and ?_ | refine Det.ex fun _ => ?_ | refine Det.cond ?_ ?_ | split)
theorem g102_flat (args : List AV) (o : AOut) (h : g102 args (· = o)) : flatO o = true := by
  unfold g102 at h
  split at h
  · rename_i e
    cases hb : (e == 0) <;> rw [hb] at h <;> cases h <;> rfl
  · exact h.elim

set_option maxRecDepth 100000 in
set_option maxHeartbeats 4000000 in
theorem f102_ok (x : AV) (e : Int) (T : Tab) (Q : AOut → Prop) (hQ : cond (e == 0) (Q (.ret (.tuple []))) (Q (.pan eM))) (N : Nat) (hx : x = .any) :
    abody Tryz.prog T 0 N Tryz.f97 [x, .int .i64 e] [] (fun out Hs => Q (frzO Hs out)) := by
  subst hx
  conv => whnf
  split
  · rename_i h; have h : (e != 0) = true := h
    rw [show (e == 0) = false by simpa using h] at hQ
    refine Eq.mp ?_ hQ
    kernel_rfl
  · rename_i h; have h : (e != 0) = false := h
    rw [show (e == 0) = true by simpa using h] at hQ
    conv => whnf
    refine Eq.mp ?_ hQ
    kernel_rfl

def g102' : GSpec := fun args K => match args with
  | [.any, .int .i64 e] => cond (e == 0) (K (.ret (.tuple []))) (K (.pan eM))
  | _ => False
theorem g102'_det (args : List AV) : Det (g102' args) := by
  unfold g102'
  repeat' (first | exact Det.no | exact Det.at _ | refine Det.and ?_ | refine Det.ex fun _ => ?_ | refine Det.cond ?_ ?_ | split)
theorem g102'_flat (args : List AV) (o : AOut) (h : g102' args (· = o)) : flatO o = true := by
  unfold g102' at h
  split at h
  · rename_i e
    cases hb : (e == 0) <;> rw [hb] at h <;> cases h <;> rfl
  · exact h.elim
set_option maxRecDepth 100000 in
theorem s102 {T : Tab} (hT : TGood Tryz.prog T) : SGood Tryz.prog 97 (flatT g102') := flatT_good g102'_det g102'_flat fun args Q h => by
  unfold g102' at h
  split at h
  · exact body_pure hT mixedT Tryz.func97 (entersOf Tryz.func97 (by kernel_rfl) rfl) 0 (f102_ok _ _ T Q h 0 rfl)
  · exact h.elim

def g59 (l : List Int) : RM AV := RM.map (fun n => .int .i64 n) (rNum l)

set_option maxRecDepth 100000 in
set_option maxHeartbeats 4000000 in
theorem f59_ok (l : List Int) (a : Int) (hl : OkL l) (T : Tab) (Q : AOut → Int → Prop) (hQ : rK (g59 l a) (fun v a' => Q (.ret v) a') (fun a' => Q (.pan eM) a')) (N : Nat) :
    abody Tryz.prog (ext (ext T 96 (flatT g101)) 97 (flatT g102')) 1 N Tryz.f58 [.ptr 0 0] [rvar l a] (fun out Hs => ∃ a', Hs[0]? = some (rvar l a') ∧ Q (frzO Hs out) a') := by
  unfold g59 RM.map rNum at hQ
  cases h : decI l a with
  | none =>
    have e1 : dN l a = 0 := by simp [dN, h]
    have e2 : dX l a = 0 := by simp [dX, h]
    have e3 : dE l a = 11 := by simp [dE, h]
    rw [h] at hQ
    conv => whnf
    refine ⟨[], ?_⟩
    conv => whnf
    refine ⟨l, rfl, hl.b, hl.len, ?_⟩
    rw [e1, e2, e3]
    conv => whnf
    refine ⟨rfl, ?_⟩
    conv => whnf
    refine ⟨a, by kernel_rfl, Eq.mp ?_ hQ⟩
    kernel_rfl
  | some y =>
    obtain ⟨n, x⟩ := y
    have e1 : dN l a = n := by simp [dN, h]
    have e2 : dX l a = x := by simp [dX, h]
    have e3 : dE l a = 0 := by simp [dE, h]
    rw [h] at hQ
    conv => whnf
    refine ⟨[], ?_⟩
    conv => whnf
    refine ⟨l, rfl, hl.b, hl.len, ?_⟩
    rw [e1, e2, e3]
    conv => whnf
    refine ⟨rfl, ?_⟩
    conv => whnf
    refine ⟨x, by kernel_rfl, Eq.mp ?_ hQ⟩
    kernel_rfl

theorem g59_closed (l : List Int) (a : Int) (v : AV) (a' : Int) (h : g59 l a = (some v, a')) : closed v = true := by
  unfold g59 RM.map at h
  split at h
  · cases h; rfl
  · cases h

set_option maxRecDepth 100000 in
theorem s59 {T : Tab} (hT : TGood Tryz.prog T) : SGood Tryz.prog 58 (readerT g59) := readerT_good g59_closed fun l a Q hl hQ => by
  have h1 := ext_good hT (s101 hT)
  have h2 := ext_good h1 (s102 h1)
  exact abody_sound h2.ok h2.ang h2.mono mixedT Tryz.func58 (entersOf Tryz.func58 (by kernel_rfl) rfl) (f59_ok l a hl T Q hQ 0)

def rText (l : List Int) : RM (List Int) := fun a => match decB l a 65536 with
  | some (p, x) => (some p, x)
  | none => (none, a)
def g105 (l : List Int) : RM AV := RM.map (fun p => .slice (bsA p)) (rText l)
theorem g105_closed (l : List Int) (a : Int) (v : AV) (a' : Int) (h : g105 l a = (some v, a')) : closed v = true := by
  unfold g105 RM.map at h
  split at h
  · cases h; rfl
  · cases h

set_option maxRecDepth 100000 in
set_option maxHeartbeats 4000000 in
theorem f105_ok (l : List Int) (a : Int) (hl : OkL l) (T : Tab) (Q : AOut → Int → Prop) (hQ : rK (g105 l a) (fun v a' => Q (.ret v) a') (fun a' => Q (.pan eM) a')) (N : Nat) :
    abody Tryz.prog (ext (ext T 143 (pureT g130)) 97 (flatT g102')) 1 N Tryz.f100 [.ptr 0 0] [rvar l a] (fun out Hs => ∃ a', Hs[0]? = some (rvar l a') ∧ Q (frzO Hs out) a') := by
  unfold g105 RM.map rText at hQ
  cases h : decB l a 65536 with
  | none =>
    have e1 : bP l a 65536 = [] := by simp [bP, h]
    have e2 : bX l a 65536 = 0 := by simp [bX, h]
    have e3 : bE l a 65536 = 11 := by simp [bE, h]
    rw [h] at hQ
    conv => whnf
    refine ⟨[], ?_⟩
    conv => whnf
    refine ⟨l, rfl, hl.b, hl.len, ?_⟩
    rw [e1, e2, e3]
    conv => whnf
    refine ⟨rfl, ?_⟩
    conv => whnf
    refine ⟨a, by kernel_rfl, Eq.mp ?_ hQ⟩
    kernel_rfl
  | some y =>
    obtain ⟨n, x⟩ := y
    have e1 : bP l a 65536 = n := by simp [bP, h]
    have e2 : bX l a 65536 = x := by simp [bX, h]
    have e3 : bE l a 65536 = 0 := by simp [bE, h]
    rw [h] at hQ
    conv => whnf
    refine ⟨[], ?_⟩
    conv => whnf
    refine ⟨l, rfl, hl.b, hl.len, ?_⟩
    rw [e1, e2, e3]
    conv => whnf
    refine ⟨rfl, ?_⟩
    conv => whnf
    refine ⟨x, by kernel_rfl, Eq.mp ?_ hQ⟩
    kernel_rfl

set_option maxRecDepth 100000 in
theorem s105 {T : Tab} (hT : TGood Tryz.prog T) : SGood Tryz.prog 100 (readerT g105) := readerT_good g105_closed fun l a Q hl hQ => by
  have h1 := ext_good hT (s130 hT)
  have h2 := ext_good h1 (s102 h1)
  exact abody_sound h2.ok h2.ang h2.mono mixedT Tryz.func100 (entersOf Tryz.func100 (by kernel_rfl) rfl) (f105_ok l a hl T Q hQ 0)

end Go.Abs

/-
(*msg.reader).ballot, req, vote; msg.read of votes are what they come to.
-/
namespace Go.Abs
open Go Go.Proofs


def rBal (l : List Int) : RM BalV := RM.bind (rNum l) fun v1 => RM.bind (rNum l) fun v2 => RM.pure (⟨v1, v2⟩ : BalV)
def g103 (l : List Int) : RM AV := RM.map (fun x => .agg (balC x)) (rBal l)
theorem g103_closed (l : List Int) (a : Int) (v : AV) (a' : Int) (h : g103 l a = (some v, a')) : closed v = true := by
  unfold g103 RM.map at h
  split at h
  · cases h; rfl
  · cases h

set_option maxRecDepth 100000 in
set_option maxHeartbeats 4000000 in
theorem f103_ok (l : List Int) (a0 : Int) (hl : OkL l) (T : Tab) (Q : AOut → Int → Prop) (hQ : rK (g103 l a0) (fun v a' => Q (.ret v) a') (fun a' => Q (.pan eM) a')) (N : Nat) :
    abody Tryz.prog (ext T 58 (readerT g59)) 1 N Tryz.f98 [.ptr 0 0] [rvar l a0] (fun out Hs => ∃ a', Hs[0]? = some (rvar l a') ∧ Q (frzO Hs out) a') := by
  conv => whnf
  refine ⟨l, rfl, hl, ?_⟩
  rcases h1 : rNum l a0 with ⟨_ | v1, a1⟩
  · rw [show g59 l a0 = (none, a1) by simp only [g59, RM.map, h1]]
    rw [show g103 l a0 = (none, a1) by simp only [g103, rBal, RM.map, RM.bind, h1]] at hQ
    conv => whnf
    refine ⟨a1, by kernel_rfl, Eq.mp ?_ hQ⟩
    kernel_rfl
  rw [show g59 l a0 = (some (.int .i64 v1), a1) by simp only [g59, RM.map, h1]]
  conv => whnf
  refine ⟨l, rfl, hl, ?_⟩
  rcases h2 : rNum l a1 with ⟨_ | v2, a2⟩
  · rw [show g59 l a1 = (none, a2) by simp only [g59, RM.map, h2]]
    rw [show g103 l a0 = (none, a2) by simp only [g103, rBal, RM.map, RM.bind, h1, h2]] at hQ
    conv => whnf
    refine ⟨a2, by kernel_rfl, Eq.mp ?_ hQ⟩
    kernel_rfl
  rw [show g59 l a1 = (some (.int .i64 v2), a2) by simp only [g59, RM.map, h2]]
  conv => whnf
  rw [show g103 l a0 = (some ((fun x => .agg (balC x)) (⟨v1, v2⟩ : BalV)), a2) by simp only [g103, rBal, RM.map, RM.bind, RM.pure, h1, h2]] at hQ
  refine ⟨a2, by kernel_rfl, Eq.mp ?_ hQ⟩
  kernel_rfl

set_option maxRecDepth 100000 in
theorem s103 {T : Tab} (hT : TGood Tryz.prog T) : SGood Tryz.prog 98 (readerT g103) := readerT_good g103_closed fun l a Q hl hQ => by
  have t0 := ext_good hT (s59 hT)
  exact abody_sound t0.ok t0.ang t0.mono mixedT Tryz.func98 (entersOf Tryz.func98 (by kernel_rfl) rfl) (f103_ok l a hl T Q hQ 0)


def rReq (l : List Int) : RM RqV := RM.bind (rNum l) fun v1 => RM.bind (rNum l) fun v2 => RM.bind (rText l) fun v3 => RM.bind (rText l) fun v4 => RM.pure (⟨v1, v2, v3, v4⟩ : RqV)
def g104 (l : List Int) : RM AV := RM.map (fun x => .agg (rqC x)) (rReq l)
theorem g104_closed (l : List Int) (a : Int) (v : AV) (a' : Int) (h : g104 l a = (some v, a')) : closed v = true := by
  unfold g104 RM.map at h
  split at h
  · cases h; rfl
  · cases h

set_option maxRecDepth 100000 in
set_option maxHeartbeats 4000000 in
theorem f104_ok (l : List Int) (a0 : Int) (hl : OkL l) (T : Tab) (Q : AOut → Int → Prop) (hQ : rK (g104 l a0) (fun v a' => Q (.ret v) a') (fun a' => Q (.pan eM) a')) (N : Nat) :
    abody Tryz.prog (ext (ext T 58 (readerT g59)) 100 (readerT g105)) 1 N Tryz.f99 [.ptr 0 0] [rvar l a0] (fun out Hs => ∃ a', Hs[0]? = some (rvar l a') ∧ Q (frzO Hs out) a') := by
  conv => whnf
  refine ⟨l, rfl, hl, ?_⟩
  rcases h1 : rNum l a0 with ⟨_ | v1, a1⟩
  · rw [show g59 l a0 = (none, a1) by simp only [g59, RM.map, h1]]
    rw [show g104 l a0 = (none, a1) by simp only [g104, rReq, RM.map, RM.bind, h1]] at hQ
    conv => whnf
    refine ⟨a1, by kernel_rfl, Eq.mp ?_ hQ⟩
    kernel_rfl
  rw [show g59 l a0 = (some (.int .i64 v1), a1) by simp only [g59, RM.map, h1]]
  conv => whnf
  refine ⟨l, rfl, hl, ?_⟩
  rcases h2 : rNum l a1 with ⟨_ | v2, a2⟩
  · rw [show g59 l a1 = (none, a2) by simp only [g59, RM.map, h2]]
    rw [show g104 l a0 = (none, a2) by simp only [g104, rReq, RM.map, RM.bind, h1, h2]] at hQ
    conv => whnf
    refine ⟨a2, by kernel_rfl, Eq.mp ?_ hQ⟩
    kernel_rfl
  rw [show g59 l a1 = (some (.int .i64 v2), a2) by simp only [g59, RM.map, h2]]
  conv => whnf
  refine ⟨l, rfl, hl, ?_⟩
  rcases h3 : rText l a2 with ⟨_ | v3, a3⟩
  · rw [show g105 l a2 = (none, a3) by simp only [g105, RM.map, h3]]
    rw [show g104 l a0 = (none, a3) by simp only [g104, rReq, RM.map, RM.bind, h1, h2, h3]] at hQ
    conv => whnf
    refine ⟨a3, by kernel_rfl, Eq.mp ?_ hQ⟩
    kernel_rfl
  rw [show g105 l a2 = (some (.slice (bsA v3)), a3) by simp only [g105, RM.map, h3]]
  conv => whnf
  refine ⟨l, rfl, hl, ?_⟩
  rcases h4 : rText l a3 with ⟨_ | v4, a4⟩
  · rw [show g105 l a3 = (none, a4) by simp only [g105, RM.map, h4]]
    rw [show g104 l a0 = (none, a4) by simp only [g104, rReq, RM.map, RM.bind, h1, h2, h3, h4]] at hQ
    conv => whnf
    refine ⟨a4, by kernel_rfl, Eq.mp ?_ hQ⟩
    kernel_rfl
  rw [show g105 l a3 = (some (.slice (bsA v4)), a4) by simp only [g105, RM.map, h4]]
  conv => whnf
  rw [show g104 l a0 = (some ((fun x => .agg (rqC x)) (⟨v1, v2, v3, v4⟩ : RqV)), a4) by simp only [g104, rReq, RM.map, RM.bind, RM.pure, h1, h2, h3, h4]] at hQ
  refine ⟨a4, by kernel_rfl, Eq.mp ?_ hQ⟩
  kernel_rfl

set_option maxRecDepth 100000 in
theorem s104 {T : Tab} (hT : TGood Tryz.prog T) : SGood Tryz.prog 99 (readerT g104) := readerT_good g104_closed fun l a Q hl hQ => by
  have t0 := ext_good hT (s59 hT)
  have t1 := ext_good t0 (s105 t0)
  exact abody_sound t1.ok t1.ang t1.mono mixedT Tryz.func99 (entersOf Tryz.func99 (by kernel_rfl) rfl) (f104_ok l a hl T Q hQ 0)


def rVote (l : List Int) : RM VtV := RM.bind (rNum l) fun v1 => RM.bind (rText l) fun v2 => RM.pure (⟨v1, v2⟩ : VtV)
def g107 (l : List Int) : RM AV := RM.map (fun x => .agg (vtC x)) (rVote l)
theorem g107_closed (l : List Int) (a : Int) (v : AV) (a' : Int) (h : g107 l a = (some v, a')) : closed v = true := by
  unfold g107 RM.map at h
  split at h
  · cases h; rfl
  · cases h

set_option maxRecDepth 100000 in
set_option maxHeartbeats 4000000 in
theorem f107_ok (l : List Int) (a0 : Int) (hl : OkL l) (T : Tab) (Q : AOut → Int → Prop) (hQ : rK (g107 l a0) (fun v a' => Q (.ret v) a') (fun a' => Q (.pan eM) a')) (N : Nat) :
    abody Tryz.prog (ext (ext T 58 (readerT g59)) 100 (readerT g105)) 1 N Tryz.f102 [.ptr 0 0] [rvar l a0] (fun out Hs => ∃ a', Hs[0]? = some (rvar l a') ∧ Q (frzO Hs out) a') := by
  conv => whnf
  refine ⟨l, rfl, hl, ?_⟩
  rcases h1 : rNum l a0 with ⟨_ | v1, a1⟩
  · rw [show g59 l a0 = (none, a1) by simp only [g59, RM.map, h1]]
    rw [show g107 l a0 = (none, a1) by simp only [g107, rVote, RM.map, RM.bind, h1]] at hQ
    conv => whnf
    refine ⟨a1, by kernel_rfl, Eq.mp ?_ hQ⟩
    kernel_rfl
  rw [show g59 l a0 = (some (.int .i64 v1), a1) by simp only [g59, RM.map, h1]]
  conv => whnf
  refine ⟨l, rfl, hl, ?_⟩
  rcases h2 : rText l a1 with ⟨_ | v2, a2⟩
  · rw [show g105 l a1 = (none, a2) by simp only [g105, RM.map, h2]]
    rw [show g107 l a0 = (none, a2) by simp only [g107, rVote, RM.map, RM.bind, h1, h2]] at hQ
    conv => whnf
    refine ⟨a2, by kernel_rfl, Eq.mp ?_ hQ⟩
    kernel_rfl
  rw [show g105 l a1 = (some (.slice (bsA v2)), a2) by simp only [g105, RM.map, h2]]
  conv => whnf
  rw [show g107 l a0 = (some ((fun x => .agg (vtC x)) (⟨v1, v2⟩ : VtV)), a2) by simp only [g107, rVote, RM.map, RM.bind, RM.pure, h1, h2]] at hQ
  refine ⟨a2, by kernel_rfl, Eq.mp ?_ hQ⟩
  kernel_rfl

set_option maxRecDepth 100000 in
theorem s107 {T : Tab} (hT : TGood Tryz.prog T) : SGood Tryz.prog 102 (readerT g107) := readerT_good g107_closed fun l a Q hl hQ => by
  have t0 := ext_good hT (s59 hT)
  have t1 := ext_good t0 (s105 t0)
  exact abody_sound t1.ok t1.ang t1.mono mixedT Tryz.func102 (entersOf Tryz.func102 (by kernel_rfl) rfl) (f107_ok l a hl T Q hQ 0)

end Go.Abs

/-
msg.read of votes, numbers, requests is what it comes to.
-/
namespace Go.Abs
open Go Go.Proofs

def rowV1 (l : List (List AV)) : AV := match l with | [] => .zslice | _ => .row 1
def rowH1 (e sz : Nat) (l : List (List AV)) : Heap := match l with | [] => [] | _ => [.row true e sz l]
theorem fits_one' {el : List AV} {sz bytes n : Nat} (h : el.length = sz) (hb : Nat.ble bytes 4096 = true) (hn : n ≤ 1000) : FitsA [el] sz bytes n := by
  have hb := Nat.le_of_ble_eq_true hb
  refine fits_one h ?_ (by omega)
  have : (n + 1) * bytes ≤ 1001 * 4096 := Nat.mul_le_mul (by omega) hb
  omega
def rList {α : Type} (m : RM α) : Nat → RM (List α)
  | 0 => RM.pure []
  | n + 1 => RM.bind m fun x => RM.bind (rList m n) fun xs => RM.pure (x :: xs)
/-- A list: its number of items, each by a method. -/
def rMany {α : Type} (l : List Int) (m : RM α) : RM (List α) := RM.bind (rNum l) fun n => if n > 64 then fun a => (none, a) else rList m n.toNat
theorem decF_nonneg : ∀ (r : List Int) (i : Nat) (n : Int) (x : Int × Nat), 0 ≤ n → decF i n r = some x → 0 ≤ x.1
  | [], i, n, x, _, h => by simp [decF] at h
  | c :: r, i, n, x, hn, h => by
    have h0 : 0 ≤ (c % 128) * 128 ^ i := Int.mul_nonneg (by omega) (Int.pow_nonneg (by decide))
    unfold decF at h
    split at h
    · split at h
      · cases h
      · cases h
        dsimp only
        omega
    · exact decF_nonneg r (i + 1) _ x (by omega) h
theorem rNum_nonneg {l : List Int} {a n b : Int} (h : rNum l a = (some n, b)) : 0 ≤ n := by
  unfold rNum at h
  split at h
  · rename_i m x hd
    cases h
    unfold decI at hd
    split at hd
    · cases hd
    · rw [Option.map_eq_some_iff] at hd
      obtain ⟨y, hy, e⟩ := hd
      cases e
      exact decF_nonneg _ 0 0 y (by omega) hy
  · cases h


def g106 (l : List Int) : RM AV := RM.map (fun x => .slice (vtCL x)) (rMany l (rVote l))
theorem g106_closed (l : List Int) (a : Int) (v : AV) (a' : Int) (h : g106 l a = (some v, a')) : closed v = true := by
  unfold g106 RM.map at h
  split at h
  · cases h; rfl
  · cases h

set_option maxRecDepth 100000 in
set_option maxHeartbeats 8000000 in
theorem f106_ok (l : List Int) (a0 : Int) (hl : OkL l) (T : Tab) (Q : AOut → Int → Prop) (hQ : rK (g106 l a0) (fun v a' => Q (.ret v) a') (fun a' => Q (.pan eM) a')) (N : Nat) (hN : 64 < N) :
    abody Tryz.prog (ext (ext T 58 (readerT g59)) 102 (readerT g107)) 1 N Tryz.f101 [.ptr 0 0, .func (.func 102) [.ptr 0 0] []] [rvar l a0] (fun out Hs => ∃ a', Hs[0]? = some (rvar l a') ∧ Q (frzO Hs out) a') := by
  conv => whnf
  refine ⟨l, rfl, hl, ?_⟩
  rcases h1 : rNum l a0 with ⟨_ | n, a1⟩
  · rw [show g59 l a0 = (none, a1) by simp only [g59, RM.map, h1]]
    rw [show g106 l a0 = (none, a1) by simp only [g106, rMany, RM.map, RM.bind, h1]] at hQ
    conv => whnf
    refine ⟨a1, by kernel_rfl, Eq.mp ?_ hQ⟩
    kernel_rfl
  rw [show g59 l a0 = (some (.int .i64 n), a1) by simp only [g59, RM.map, h1]]
  have hn0 := rNum_nonneg h1
  conv => whnf
  split
  · rename_i h2; have h2 : n > 64 := of_decide_eq_true h2
    rw [show g106 l a0 = (none, a1) by simp only [g106, rMany, RM.map, RM.bind, h1, if_pos h2]] at hQ
    refine ⟨a1, by kernel_rfl, Eq.mp ?_ hQ⟩
    kernel_rfl
  rename_i h2; have h2 : ¬ n > 64 := of_decide_eq_false h2
  have hG : g106 l a0 = RM.map (fun x => .slice (vtCL x)) (rList (rVote l) n.toNat) a1 := by
    simp only [g106, rMany, RM.map, RM.bind, h1, if_neg h2]
  rw [hG] at hQ
  clear hG h1
  conv => whnf
  refine aloop_at ?_ ?_ (aloop_inv (σ := Nat × List VtV × Int) (fun s => ((sp 0 22 [(1, .func (.func 102) [.ptr 0 0] []), (6, rowV1 (vtCL s.2.1)), (12, .int .i64 n), (13, .int .i64 (s.1 : Nat))]), rvar l s.2.2 :: rowH1 104 2 (vtCL s.2.1)))
    (fun s => s.1 ≤ n.toNat ∧ s.2.1.length = s.1 ∧ rList (rVote l) n.toNat a1 = RM.map (fun x => s.2.1 ++ x) (rList (rVote l) (n.toNat - s.1)) s.2.2) (fun s => n.toNat - s.1) ?_ N (0, [], a1) ⟨Nat.zero_le _, rfl, by simp [RM.map]; rcases rList (rVote l) n.toNat a1 with ⟨_ | _, _⟩ <;> rfl⟩ (by dsimp only; omega))
  · kernel_rfl
  · kernel_rfl
  clear hN
  rintro ⟨i, acc, a⟩ ⟨i1, i2, i3⟩ R hR
  dsimp only at i1 i2 i3
  have hcl : (vtCL acc).length = i := by simp [vtCL, i2]
  rcases acc with _ | ⟨x, xs⟩
  · conv => whnf
    split
    rotate_left
    · rename_i h3; have h3 : ¬ (i : Int) < n := of_decide_eq_false h3
      rw [show n.toNat - i = 0 by omega] at i3
      rw [show RM.map (fun x => AV.slice (vtCL x)) (rList (rVote l) n.toNat) a1 = (some (.slice (vtCL [])), a) by simp only [RM.map, i3, rList, RM.pure, List.append_nil]] at hQ
      conv => whnf
      refine ⟨a, by kernel_rfl, Eq.mp ?_ hQ⟩
      kernel_rfl
    rename_i h3; have h3 : (i : Int) < n := of_decide_eq_true h3
    have hi1 : IntKind.i64.wrap ((i : Int) + 1) = ((i + 1 : Nat) : Int) := by rw [IntWalk.i64_in _ (by omega)]; omega
    obtain ⟨k, hk⟩ : ∃ k, n.toNat - i = k + 1 := ⟨n.toNat - i - 1, by omega⟩
    have hk2 : n.toNat - (i + 1) = k := by omega
    rw [hk] at i3
    conv => whnf
    refine ⟨l, rfl, hl, ?_⟩
    rcases h4 : rVote l a with ⟨_ | v, a2⟩
    · rw [show g107 l a = (none, a2) by simp only [g107, RM.map, h4]]
      rw [show RM.map (fun x => AV.slice (vtCL x)) (rList (rVote l) n.toNat) a1 = (none, a2) by simp only [RM.map, i3, rList, RM.bind, h4]] at hQ
      conv => whnf
      refine ⟨a2, by kernel_rfl, Eq.mp ?_ hQ⟩
      kernel_rfl
    rw [show g107 l a = (some (.agg (vtC v)), a2) by simp only [g107, RM.map, h4]]
    have hx : rList (rVote l) (k + 1) a = RM.map (fun x => v :: x) (rList (rVote l) k) a2 := by
      simp only [rList, RM.map, RM.bind, h4, RM.pure]
    conv => whnf
    refine ⟨fits_at (ys' := [vtC v]) (by kernel_rfl) (fits_one' (by kernel_rfl) (by kernel_rfl) (by omega)), ?_⟩
    conv => whnf
    refine R_at ?_ ?_ (hR (i + 1, [v], a2) ⟨by omega, by simp only [List.length_cons, List.length_nil] at *; omega, ?_⟩ (by dsimp only; omega))
    · rw [← hi1]; kernel_rfl
    · kernel_rfl
    · rw [hk2, i3]
      show RM.map _ (rList (rVote l) (k + 1)) a = _
      simp only [RM.map] at hx ⊢
      rw [hx]
      rcases rList (rVote l) k a2 with ⟨_ | y, b⟩ <;> simp
  · conv => whnf
    split
    rotate_left
    · rename_i h3; have h3 : ¬ (i : Int) < n := of_decide_eq_false h3
      rw [show n.toNat - i = 0 by omega] at i3
      rw [show RM.map (fun x => AV.slice (vtCL x)) (rList (rVote l) n.toNat) a1 = (some (.slice (vtCL (x :: xs))), a) by simp only [RM.map, i3, rList, RM.pure, List.append_nil]] at hQ
      conv => whnf
      refine ⟨a, by kernel_rfl, Eq.mp ?_ hQ⟩
      kernel_rfl
    rename_i h3; have h3 : (i : Int) < n := of_decide_eq_true h3
    have hi1 : IntKind.i64.wrap ((i : Int) + 1) = ((i + 1 : Nat) : Int) := by rw [IntWalk.i64_in _ (by omega)]; omega
    obtain ⟨k, hk⟩ : ∃ k, n.toNat - i = k + 1 := ⟨n.toNat - i - 1, by omega⟩
    have hk2 : n.toNat - (i + 1) = k := by omega
    rw [hk] at i3
    conv => whnf
    refine ⟨l, rfl, hl, ?_⟩
    rcases h4 : rVote l a with ⟨_ | v, a2⟩
    · rw [show g107 l a = (none, a2) by simp only [g107, RM.map, h4]]
      rw [show RM.map (fun x => AV.slice (vtCL x)) (rList (rVote l) n.toNat) a1 = (none, a2) by simp only [RM.map, i3, rList, RM.bind, h4]] at hQ
      conv => whnf
      refine ⟨a2, by kernel_rfl, Eq.mp ?_ hQ⟩
      kernel_rfl
    rw [show g107 l a = (some (.agg (vtC v)), a2) by simp only [g107, RM.map, h4]]
    have hx : rList (rVote l) (k + 1) a = RM.map (fun x => v :: x) (rList (rVote l) k) a2 := by
      simp only [rList, RM.map, RM.bind, h4, RM.pure]
    conv => whnf
    refine ⟨fits_at (ys' := [vtC v]) (by kernel_rfl) (fits_one' (by kernel_rfl) (by kernel_rfl) (Nat.le_trans (Nat.le_of_eq hcl) (by omega))), ?_⟩
    conv => whnf
    refine R_at ?_ ?_ (hR (i + 1, ((x :: xs) ++ [v]), a2) ⟨by omega, by simp only [List.length_append, List.length_cons, List.length_nil] at *; omega, ?_⟩ (by dsimp only; omega))
    · rw [← hi1]; kernel_rfl
    · show _ = rvar l a2 :: rowH1 104 2 (vtCL ((x :: xs) ++ [v]))
      rw [show vtCL ((x :: xs) ++ [v]) = vtCL (x :: xs) ++ [vtC v] by simp [vtCL]]
      kernel_rfl
    · rw [hk2, i3]
      show RM.map _ (rList (rVote l) (k + 1)) a = _
      simp only [RM.map] at hx ⊢
      rw [hx]
      rcases rList (rVote l) k a2 with ⟨_ | y, b⟩ <;> simp

set_option maxRecDepth 100000 in
theorem s106 {T : Tab} (hT : TGood Tryz.prog T) : SGood Tryz.prog 101 (readT 102 g106) := readT_good g106_closed fun l a Q hl hQ => by
  have t0 := ext_good hT (s59 hT)
  have t1 := ext_good t0 (s107 t0)
  exact abody_sound t1.ok t1.ang t1.mono mixedT Tryz.func101 (entersOf Tryz.func101 (by kernel_rfl) rfl) (f106_ok l a hl T Q hQ 65 (by omega))

end Go.Abs

