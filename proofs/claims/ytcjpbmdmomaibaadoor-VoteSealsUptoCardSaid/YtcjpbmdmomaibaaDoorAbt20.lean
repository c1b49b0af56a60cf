/-
sha.Sum is what it comes to.
-/
import Derived.Test.YtcjpbmdmomaibaaDoorAbt19
import Derived.Test.YtcjpbmdmomaibaaDoorAbt8
import Derived.Test.YtcjpbmdmomaibaaDoorAbt17
namespace Go.Abs
open Go Go.Proofs

theorem hashN_add (s : V8) (m : List Int) (k : Nat) : ∀ j, hashN s m (k + j) = hashN (hashN s m k) (m.drop (64 * k)) j
  | 0 => rfl
  | j + 1 => by
    show blk (hashN s m (k + j)) _ = blk _ _
    rw [hashN_add s m k j, List.drop_drop, show 64 * k + 64 * j = 64 * (k + j) by omega]
    rfl
theorem hashN_pre (s : V8) (l r : List Int) : ∀ k, 64 * k ≤ l.length → hashN s (l ++ r) k = hashN s l k
  | 0, _ => rfl
  | k + 1, h => by
    show blk (hashN s (l ++ r) k) _ = blk _ _
    rw [hashN_pre s l r k (by omega), List.drop_append_of_le_length (by omega), List.take_append_of_le_length (by rw [List.length_drop]; omega)]
theorem sha_law (l : List Int) (k : Nat) (hk : 64 * k ≤ l.length) :
    outN (hashN (hashN h0 l k) (tailB (l.drop (64 * k)) (8 * (l.length : Int))) ((tailB (l.drop (64 * k)) (8 * (l.length : Int))).length / 64)) 8 = shaL l := by
  have hz : padZ (l.drop (64 * k)).length = padZ l.length := by
    unfold padZ
    rw [List.length_drop, show (l.length - 64 * k) % 64 = l.length % 64 by omega]
  have ht : tailB (l.drop (64 * k)) (8 * (l.length : Int)) = (padB l).drop (64 * k) := by
    unfold tailB padB size8
    rw [hz, List.append_assoc, List.append_assoc, List.drop_append_of_le_length hk]
  have hp : padB l = l ++ (128 :: List.replicate (padZ l.length) 0 ++ sizeB (size8 l) 8) := by unfold padB; rw [List.append_assoc]
  obtain ⟨hm1, hm2, hm3⟩ := padB_len l
  have hkl : 64 * k ≤ (padB l).length := by rw [hp, List.length_append]; omega
  unfold shaL
  rw [ht, show hashN h0 l k = hashN h0 (padB l) k by rw [hp, hashN_pre h0 l _ k hk], List.length_drop, ← hashN_add, show k + ((padB l).length - 64 * k) / 64 = (padB l).length / 64 by omega]

set_option maxRecDepth 100000 in
set_option maxHeartbeats 16000000 in
theorem f140_ok (l : List Int) (hb : okB l) (hl : l.length ≤ 1073741824) (T : Tab) (Q : AOut → Prop) (hQ : Q (.ret (.slice (bsA (shaL l))))) (N : Nat) :
    abody Tryd.prog (ext (ext (ext T 147 (shapeT R147)) 148 (shapeT R148)) 149 (shapeT R149)) 0 N Tryd.f140 [.slice (bsA l)] [] (fun out Hs => Q (frzO Hs out)) := by
  have hlaw := sha_law l (l.length / 64) (by omega)
  obtain ⟨k, hk⟩ : ∃ k, k = l.length / 64 := ⟨_, rfl⟩
  rw [← hk] at hlaw
  conv => whnf
  refine ⟨[], .ret (.ptr 0 0), _, .ret (.ptr 0 0), [.var (c8 h0 ++ [.zslice, .int .u64 0])], ⟨by kernel_rfl, by kernel_rfl, ⟨by kernel_rfl, by kernel_rfl, rfl, rfl⟩, by kernel_rfl, by kernel_rfl⟩, ?_⟩
  conv => whnf
  rcases k with _ | k
  · refine ⟨[0], .ret (.tuple []), [.var (c8 (hashN h0 l 0) ++ [.row 1, .int .u64 l.length]), .row true 5 1 (bsA l)], .ret (.tuple []), [.var (c8 (hashN h0 l 0) ++ [.row 2, .int .u64 l.length]), .row false 26 1 [[.slice (bsA l)]], .row true 5 1 (bsA l)], ⟨by kernel_rfl, by kernel_rfl, ⟨h0, l, by kernel_rfl, hb, hl, by kernel_rfl, rfl, by rw [← hk]; rfl⟩, by kernel_rfl, by kernel_rfl⟩, ?_⟩
    conv => whnf
    refine ⟨[0, 2], .ret (.row 2), [.var (c8 (hashN h0 l 0) ++ [.row 1, .int .u64 l.length]), .row true 5 1 (bsA l), .row true 5 1 (bsA (outN (hashN (hashN h0 l 0) (tailB (l.drop (64 * 0)) (8 * (l.length : Int))) ((tailB (l.drop (64 * 0)) (8 * (l.length : Int))).length / 64)) 8))], .ret (.row 3), [.var (c8 (hashN h0 l 0) ++ [.row 2, .int .u64 l.length]), .row false 26 1 [[.slice (bsA l)]], .row true 5 1 (bsA l), .row true 5 1 (bsA (outN (hashN (hashN h0 l 0) (tailB (l.drop (64 * 0)) (8 * (l.length : Int))) ((tailB (l.drop (64 * 0)) (8 * (l.length : Int))).length / 64)) 8))], ⟨by kernel_rfl, by kernel_rfl, ⟨hashN h0 l 0, l, 0, by omega, hb, hl, by kernel_rfl, by kernel_rfl, rfl, by kernel_rfl⟩, by kernel_rfl, by kernel_rfl⟩, ?_⟩
    conv => whnf
    rw [← hlaw] at hQ
    refine Eq.mp ?_ hQ
    kernel_rfl
  · refine ⟨[0], .ret (.tuple []), [.var (c8 (hashN h0 l (k + 1)) ++ [.srow 1 (64 * (k + 1)) (l.length - 64 * (k + 1)), .int .u64 l.length]), .row false 5 1 (bsA l)], .ret (.tuple []), [.var (c8 (hashN h0 l (k + 1)) ++ [.srow 2 (64 * (k + 1)) (l.length - 64 * (k + 1)), .int .u64 l.length]), .row false 26 1 [[.slice (bsA l)]], .row false 5 1 (bsA l)], ⟨by kernel_rfl, by kernel_rfl, ⟨h0, l, by kernel_rfl, hb, hl, by kernel_rfl, rfl, by rw [← hk]; rfl⟩, by kernel_rfl, by kernel_rfl⟩, ?_⟩
    conv => whnf
    refine ⟨[0, 2], .ret (.row 2), [.var (c8 (hashN h0 l (k + 1)) ++ [.srow 1 (64 * (k + 1)) (l.length - 64 * (k + 1)), .int .u64 l.length]), .row false 5 1 (bsA l), .row true 5 1 (bsA (outN (hashN (hashN h0 l (k + 1)) (tailB (l.drop (64 * (k + 1))) (8 * (l.length : Int))) ((tailB (l.drop (64 * (k + 1))) (8 * (l.length : Int))).length / 64)) 8))], .ret (.row 3), [.var (c8 (hashN h0 l (k + 1)) ++ [.srow 2 (64 * (k + 1)) (l.length - 64 * (k + 1)), .int .u64 l.length]), .row false 26 1 [[.slice (bsA l)]], .row false 5 1 (bsA l), .row true 5 1 (bsA (outN (hashN (hashN h0 l (k + 1)) (tailB (l.drop (64 * (k + 1))) (8 * (l.length : Int))) ((tailB (l.drop (64 * (k + 1))) (8 * (l.length : Int))).length / 64)) 8))], ⟨by kernel_rfl, by kernel_rfl, ⟨hashN h0 l (k + 1), l, (k + 1), by omega, hb, hl, by kernel_rfl, by kernel_rfl, rfl, by kernel_rfl⟩, by kernel_rfl, by kernel_rfl⟩, ?_⟩
    conv => whnf
    rw [← hlaw] at hQ
    refine Eq.mp ?_ hQ
    kernel_rfl

def g140 : GSpec := fun args K => match args with
  | [.slice es] => ∃ l : List Int, es = bsA l ∧ okB l ∧ l.length ≤ 1073741824 ∧ K (.ret (.slice (bsA (shaL l))))
  | _ => False
theorem g140_det (args : List AV) : Det (g140 args) := by
  unfold g140
  repeat' (first | exact Det.no | exact Det.at _ | refine Det.and ?_ | refine Det.ex fun _ => ?_ | refine Det.cond ?_ ?_ | split)
set_option maxRecDepth 100000 in
theorem s140 {T : Tab} (hT : TGood Tryd.prog T) : SGood Tryd.prog 140 (pureT g140) := pureT_good g140_det fun args Q h => by
  unfold g140 at h
  split at h
  · obtain ⟨l, rfl, hb, hl, hQ⟩ := h
    have t1 := ext_good hT (s147 hT)
    have t2 := ext_good t1 (s148 t1)
    exact body_pure (ext_good t2 (s149 t2)) mixedT Tryd.func140 (entersOf Tryd.func140 (by kernel_rfl) rfl) 0 (f140_ok l hb hl T Q hQ 0)
  · exact h.elim
end Go.Abs

/-
octet.Pack, catenaryref01.Pack are what they come to.
-/
namespace Go.Abs
open Go Go.Proofs

def partsA (ps : List (List Int)) : List (List AV) := ps.map fun l => [.slice (bsA l)]
def packL (ps : List (List Int)) : List Int := (ps.map encB).flatten
@[simp] theorem partsA_length (ps : List (List Int)) : (partsA ps).length = ps.length := by simp [partsA]
theorem packL_take {ps : List (List Int)} {i : Nat} {p : List Int} (h : ps[i]? = some p) : packL (ps.take (i + 1)) = packL (ps.take i) ++ encB p := by
  unfold packL
  rw [List.take_add_one, h]
  simp
theorem packL_take_le (ps : List (List Int)) (i : Nat) : (packL (ps.take i)).length ≤ (packL ps).length := by
  have : packL ps = packL (ps.take i) ++ packL (ps.drop i) := by unfold packL; rw [← List.flatten_append, ← List.map_append, List.take_append_drop]
  rw [this, List.length_append]; omega
theorem parts_get {ps : List (List Int)} {i : Nat} {p : List Int} (h : ps[i]? = some p) : (partsA ps)[((i : Nat) : Int).toNat]? = some [.slice (bsA p)] := by
  rw [Int.toNat_natCast]
  simp [partsA, h]

def g141 : FSpec := fun args K => match args with
  | [.slice es] => ∃ ps : List (List Int), es = partsA ps ∧ ps ≠ [] ∧ (packL ps).length ≤ 1099511627 ∧ K (.ret (.row 0)) [.row true 5 1 (bsA (packL ps))]
  | _ => False
theorem g141_det (args : List AV) : DetF (g141 args) := by
  unfold g141
  repeat' (first | exact DetF.no | exact DetF.at _ _ | refine DetF.and ?_ | refine DetF.ex fun _ => ?_ | refine DetF.cond ?_ ?_ | split)

theorem packL_many (ps : List (List Int)) {n : Nat} (h : (packL ps).length ≤ n) : ps.length ≤ n := by
  refine Nat.le_trans ?_ h
  clear h
  induction ps with
  | nil => exact Nat.zero_le _
  | cons p r ih =>
    have h1 := encI_pos p.length
    simp only [packL, List.map_cons, List.flatten_cons, List.length_append, List.length_cons, encB] at *
    omega

set_option maxRecDepth 100000 in
set_option maxHeartbeats 4000000 in
theorem f141_ok (ps : List (List Int)) (hne : ps ≠ []) (hl : (packL ps).length ≤ 1099511627) (T : Tab) (Q : AOut → Heap → Prop) (hQ : Q (.ret (.row 0)) [.row true 5 1 (bsA (packL ps))]) (N : Nat) (hN : ps.length < N) :
    abody Tryd.prog (ext T 63 (freshT g64)) 0 N Tryd.f141 [.slice (partsA ps)] [] Q := by
  have hpl : (partsA ps).length = ps.length := partsA_length ps
  have hps : 0 < ps.length := List.length_pos_iff.2 hne
  have hpb : ps.length ≤ 1099511627 := packL_many ps hl
  conv => whnf
  refine aloop_at ?_ ?_ (aloop_inv (σ := Nat) (fun i => ((sp 0 18 [(3, rvJ i), (6, .slice (partsA ps)), (7, .int .i64 (partsA ps).length), (8, .int .i64 (i : Nat))]), rhJ (packL (ps.take i)) i))
    (fun i => i ≤ ps.length) (fun i => ps.length - i) ?_ N 0 (Nat.zero_le _) (by omega))
  · kernel_rfl
  · kernel_rfl
  rintro i hi R hR
  rcases i with _ | i
  · conv => whnf
    split
    · rename_i h2; have h2 := of_decide_eq_true h2
      rw [hpl] at h2
      have h2' : 0 < ps.length := by omega
      obtain ⟨p, hp⟩ : ∃ p, ps[0]? = some p := ⟨_, List.getElem?_eq_getElem h2'⟩
      have hpe := packL_take hp
      have hle := packL_take_le ps (0 + 1)
      have hle2 : (packL (ps.take 0)).length + (encB p).length ≤ 1099511627 := by rw [hpe, List.length_append] at hle; omega
      have hpn : p.length ≤ (encB p).length := by simp [encB]
      conv => whnf
      refine ⟨by omega, by rw [hpl]; omega, [.slice (bsA p)], parts_get hp, by kernel_rfl, ?_⟩
      conv => whnf
      refine ⟨p, rfl, by omega, ?_⟩
      conv => whnf
      refine ⟨fits_at (ys' := bsA (encB p)) (by kernel_rfl) (by first | exact fits_bs (by omega) | (show FitsA _ 1 1 (bsA (packL (ps.take (0)))).length; rw [bsA_length]; exact fits_bs (by omega))), ?_⟩
      conv => whnf
      have hi1 : IntKind.i64.wrap (((0 : Nat) : Int) + 1) = ((0 + 1 : Nat) : Int) := by rw [IntWalk.i64_in _ (by omega)]; omega
      refine R_at ?_ ?_ (hR (0 + 1) (by omega) (by omega))
      · rw [← hi1]; kernel_rfl
      · show _ = [HO.row true 5 1 (bsA (packL (ps.take (0 + 1))))]
        rw [hpe, List.take_zero]
        kernel_rfl
    · rename_i h2; have h2 := of_decide_eq_false h2
      rw [hpl] at h2
      omega
  · conv => whnf
    split
    · rename_i h2; have h2 := of_decide_eq_true h2
      rw [hpl] at h2
      have h2' : (i + 1) < ps.length := by omega
      obtain ⟨p, hp⟩ : ∃ p, ps[(i + 1)]? = some p := ⟨_, List.getElem?_eq_getElem h2'⟩
      have hpe := packL_take hp
      have hle := packL_take_le ps ((i + 1) + 1)
      have hle2 : (packL (ps.take (i + 1))).length + (encB p).length ≤ 1099511627 := by rw [hpe, List.length_append] at hle; omega
      have hpn : p.length ≤ (encB p).length := by simp [encB]
      conv => whnf
      refine ⟨by omega, by rw [hpl]; omega, [.slice (bsA p)], parts_get hp, by kernel_rfl, ?_⟩
      conv => whnf
      refine ⟨p, rfl, by omega, ?_⟩
      conv => whnf
      refine ⟨fits_at (ys' := bsA (encB p)) (by kernel_rfl) (by first | exact fits_bs (by omega) | (show FitsA _ 1 1 (bsA (packL (ps.take ((i + 1))))).length; rw [bsA_length]; exact fits_bs (by omega))), ?_⟩
      conv => whnf
      have hi1 : IntKind.i64.wrap ((((i + 1) : Nat) : Int) + 1) = (((i + 1) + 1 : Nat) : Int) := by rw [IntWalk.i64_in _ (by omega)]; omega
      refine R_at ?_ ?_ (hR ((i + 1) + 1) (by omega) (by omega))
      · rw [← hi1]; kernel_rfl
      · show _ = [HO.row true 5 1 (bsA (packL (ps.take ((i + 1) + 1))))]
        rw [hpe, bsA_append (packL (ps.take ((i + 1)))) _]
        kernel_rfl
    · rename_i h2; have h2 := of_decide_eq_false h2
      rw [hpl] at h2
      have : (i + 1) = ps.length := by omega
      conv => whnf
      rw [show packL (ps.take ((i + 1))) = packL ps by rw [this, List.take_length]]
      refine Eq.mp ?_ hQ
      kernel_rfl

set_option maxRecDepth 100000 in
set_option maxHeartbeats 4000000 in
theorem f124_ok (ps : List (List Int)) (hne : ps ≠ []) (hl : (packL ps).length ≤ 1099511627) (T : Tab) (Q : AOut → Heap → Prop) (hQ : Q (.ret (.row 0)) [.row true 5 1 (bsA (packL ps))]) (N : Nat) (hN : ps.length < N) :
    abody Tryd.prog (ext T 64 (freshT g64)) 0 N Tryd.f124 [.slice (partsA ps)] [] Q := by
  have hpl : (partsA ps).length = ps.length := partsA_length ps
  have hps : 0 < ps.length := List.length_pos_iff.2 hne
  have hpb : ps.length ≤ 1099511627 := packL_many ps hl
  conv => whnf
  refine aloop_at ?_ ?_ (aloop_inv (σ := Nat) (fun i => ((sp 0 19 [(3, rvJ i), (7, .slice (partsA ps)), (8, .int .i64 (partsA ps).length), (9, .int .i64 (i : Nat))]), rhJ (packL (ps.take i)) i))
    (fun i => i ≤ ps.length) (fun i => ps.length - i) ?_ N 0 (Nat.zero_le _) (by omega))
  · kernel_rfl
  · kernel_rfl
  rintro i hi R hR
  rcases i with _ | i
  · conv => whnf
    split
    · rename_i h2; have h2 := of_decide_eq_true h2
      rw [hpl] at h2
      have h2' : 0 < ps.length := by omega
      obtain ⟨p, hp⟩ : ∃ p, ps[0]? = some p := ⟨_, List.getElem?_eq_getElem h2'⟩
      have hpe := packL_take hp
      have hle := packL_take_le ps (0 + 1)
      have hle2 : (packL (ps.take 0)).length + (encB p).length ≤ 1099511627 := by rw [hpe, List.length_append] at hle; omega
      have hpn : p.length ≤ (encB p).length := by simp [encB]
      conv => whnf
      refine ⟨by omega, by rw [hpl]; omega, [.slice (bsA p)], parts_get hp, by kernel_rfl, ?_⟩
      conv => whnf
      refine ⟨p, rfl, by omega, ?_⟩
      conv => whnf
      refine ⟨fits_at (ys' := bsA (encB p)) (by kernel_rfl) (by first | exact fits_bs (by omega) | (show FitsA _ 1 1 (bsA (packL (ps.take (0)))).length; rw [bsA_length]; exact fits_bs (by omega))), ?_⟩
      conv => whnf
      have hi1 : IntKind.i64.wrap (((0 : Nat) : Int) + 1) = ((0 + 1 : Nat) : Int) := by rw [IntWalk.i64_in _ (by omega)]; omega
      refine R_at ?_ ?_ (hR (0 + 1) (by omega) (by omega))
      · rw [← hi1]; kernel_rfl
      · show _ = [HO.row true 5 1 (bsA (packL (ps.take (0 + 1))))]
        rw [hpe, List.take_zero]
        kernel_rfl
    · rename_i h2; have h2 := of_decide_eq_false h2
      rw [hpl] at h2
      omega
  · conv => whnf
    split
    · rename_i h2; have h2 := of_decide_eq_true h2
      rw [hpl] at h2
      have h2' : (i + 1) < ps.length := by omega
      obtain ⟨p, hp⟩ : ∃ p, ps[(i + 1)]? = some p := ⟨_, List.getElem?_eq_getElem h2'⟩
      have hpe := packL_take hp
      have hle := packL_take_le ps ((i + 1) + 1)
      have hle2 : (packL (ps.take (i + 1))).length + (encB p).length ≤ 1099511627 := by rw [hpe, List.length_append] at hle; omega
      have hpn : p.length ≤ (encB p).length := by simp [encB]
      conv => whnf
      refine ⟨by omega, by rw [hpl]; omega, [.slice (bsA p)], parts_get hp, by kernel_rfl, ?_⟩
      conv => whnf
      refine ⟨p, rfl, by omega, ?_⟩
      conv => whnf
      refine ⟨fits_at (ys' := bsA (encB p)) (by kernel_rfl) (by first | exact fits_bs (by omega) | (show FitsA _ 1 1 (bsA (packL (ps.take ((i + 1))))).length; rw [bsA_length]; exact fits_bs (by omega))), ?_⟩
      conv => whnf
      have hi1 : IntKind.i64.wrap ((((i + 1) : Nat) : Int) + 1) = (((i + 1) + 1 : Nat) : Int) := by rw [IntWalk.i64_in _ (by omega)]; omega
      refine R_at ?_ ?_ (hR ((i + 1) + 1) (by omega) (by omega))
      · rw [← hi1]; kernel_rfl
      · show _ = [HO.row true 5 1 (bsA (packL (ps.take ((i + 1) + 1))))]
        rw [hpe, bsA_append (packL (ps.take ((i + 1)))) _]
        kernel_rfl
    · rename_i h2; have h2 := of_decide_eq_false h2
      rw [hpl] at h2
      have : (i + 1) = ps.length := by omega
      conv => whnf
      rw [show packL (ps.take ((i + 1))) = packL ps by rw [this, List.take_length]]
      refine Eq.mp ?_ hQ
      kernel_rfl

set_option maxRecDepth 100000 in
theorem s141 {T : Tab} (hT : TGood Tryd.prog T) : SGood Tryd.prog 141 (freshT g141) := freshT_good g141_det fun args Q h => by
  unfold g141 at h
  split at h
  · obtain ⟨ps, rfl, hne, hl, hQ⟩ := h
    exact body_fresh (ext_good hT (s63 hT)) mixedT Tryd.func141 (entersOf Tryd.func141 (by kernel_rfl) rfl) (ps.length + 1) (f141_ok ps hne hl T Q hQ _ (by omega))
  · exact h.elim

set_option maxRecDepth 100000 in
theorem s124 {T : Tab} (hT : TGood Tryd.prog T) : SGood Tryd.prog 124 (freshT g141) := freshT_good g141_det fun args Q h => by
  unfold g141 at h
  split at h
  · obtain ⟨ps, rfl, hne, hl, hQ⟩ := h
    exact body_fresh (ext_good hT (s64 hT)) mixedT Tryd.func124 (entersOf Tryd.func124 (by kernel_rfl) rfl) (ps.length + 1) (f124_ok ps hne hl T Q hQ _ (by omega))
  · exact h.elim

end Go.Abs

/-
key.Replica, key.Text, key.Sign and the document's are what they come to.
-/
namespace Go.Abs
open Go Go.Proofs

theorem okB_encF' : ∀ (k : Nat) (n : Int), 0 ≤ n → okB (encF k n)
  | 0, _, _ => fun _ h => by cases h
  | k + 1, n, h => by
    unfold encF
    split
    · intro b hb; simp at hb; subst hb; omega
    · intro b hb
      rcases List.mem_cons.1 hb with rfl | hb
      · omega
      · exact okB_encF' k (n / 128) (by omega) b hb
theorem okB_encI' {n : Int} (h : 0 ≤ n) : okB (encI n) := okB_encF' 6 n h
def strL (s : ByteArray) : List Int := s.data.toList.map fun b => (b.toNat : Int)
theorem bytesA_eq (s : ByteArray) : bytesA s = bsA (strL s) := by simp [bytesA, bsA, strL]
theorem strL_ok (s : ByteArray) : okB (strL s) := fun b hb => by
  simp only [strL, List.mem_map] at hb
  obtain ⟨c, _, rfl⟩ := hb
  have := c.toNat_lt
  omega
theorem strL_len (s : ByteArray) : (strL s).length = s.size := by simp [strL]
def rightK (k : Int) : Bool := decide (k ≥ 0) && decide (k ≤ 127)
def replK (i : Int) : Int := if 0 ≤ i ∧ i ≤ 15 then i else -1
def signT : List Int := [115, 105, 103, 110]
def textP (k : Int) (s : ByteArray) (ps : List (List Int)) : List (List Int) := [signT, encI k, strL s] ++ ps
def textK (k : Int) (s : ByteArray) (ps : List (List Int)) : List Int := cond (rightK k) (packL (textP k s ps)) []
def signK (k : Int) (s : ByteArray) (ps : List (List Int)) : List Int := cond (rightK k) (shaL (packL (textP k s ps))) []
/-- Parts that may be signed. -/
def okP (ps : List (List Int)) : Prop := ps ≠ [] ∧ (∀ p ∈ ps, okB p) ∧ (packL ps).length ≤ 1000000000
theorem packL_app (a b : List (List Int)) : packL (a ++ b) = packL a ++ packL b := by simp [packL]
theorem packL_ok : ∀ (ps : List (List Int)), (∀ p ∈ ps, okB p) → okB (packL ps)
  | [], _ => fun b hb => by cases hb
  | p :: r, h => by
    have h1 : okB (encI p.length) := okB_encI' (by omega)
    have h2 := h p (List.mem_cons_self ..)
    have h3 := packL_ok r (fun q hq => h q (List.mem_cons_of_mem _ hq))
    intro b hb
    simp only [packL, List.map_cons, List.flatten_cons, List.mem_append, encB] at hb
    rcases hb with (hb | hb) | hb
    · exact h1 b hb
    · exact h2 b hb
    · exact h3 b hb
theorem textP_len (k : Int) (s : ByteArray) : (packL [signT, encI k, strL s]).length ≤ s.size + 100 := by
  have h1 := encI_len k
  have h2 := encI_len (encI k).length
  have h3 := encI_len (strL s).length
  have h4 := encI_len (signT).length
  have h5 := strL_len s
  simp only [packL, encB, List.map_cons, List.map_nil, List.flatten_cons, List.flatten_nil, List.length_append, List.length_nil, signT, List.length_cons] at *
  omega

def g139 : GSpec := fun args K => match args with
  | [.int .i64 k] => K (.ret (.bool (rightK k)))
  | _ => False
theorem g139_det (args : List AV) : Det (g139 args) := by
  unfold g139
  repeat' (first | exact Det.no | exact Det.at _ | refine Det.and ?_ | refine Det.ex fun _ => ?_ | refine Det.cond ?_ ?_ | split)
theorem g139_flat (args : List AV) (o : AOut) (h : g139 args (· = o)) : flatO o = true := by
  unfold g139 at h
  split at h
  · cases h; rfl
  · exact h.elim
def g120 : GSpec := fun args K => match args with
  | [.int .i64 k] => K (.ret (.int .i64 (replK k)))
  | _ => False
theorem g120_det (args : List AV) : Det (g120 args) := by
  unfold g120
  repeat' (first | exact Det.no | exact Det.at _ | refine Det.and ?_ | refine Det.ex fun _ => ?_ | refine Det.cond ?_ ?_ | split)
theorem g120_flat (args : List AV) (o : AOut) (h : g120 args (· = o)) : flatO o = true := by
  unfold g120 at h
  split at h
  · cases h; rfl
  · exact h.elim

set_option maxRecDepth 100000 in
theorem f139_ok (k : Int) (T : Tab) (Q : AOut → Prop) (hQ : Q (.ret (.bool (rightK k)))) (N : Nat) : abody Tryd.prog T 0 N Tryd.f139 [.int .i64 k] [] (fun out Hs => Q (frzO Hs out)) := by
  unfold rightK at hQ
  conv => whnf
  split
  · rename_i h; rw [h] at hQ
    conv => whnf
    refine Eq.mp ?_ hQ
    kernel_rfl
  · rename_i h; rw [h] at hQ
    conv => whnf
    refine Eq.mp ?_ hQ
    kernel_rfl
set_option maxRecDepth 100000 in
theorem f120_ok (k : Int) (T : Tab) (Q : AOut → Prop) (hQ : Q (.ret (.int .i64 (replK k)))) (N : Nat) : abody Tryd.prog T 0 N Tryd.f120 [.int .i64 k] [] (fun out Hs => Q (frzO Hs out)) := by
  unfold replK at hQ
  conv => whnf
  split
  · rename_i h; have h := of_decide_eq_true h
    rw [if_neg (by omega)] at hQ
    conv => whnf
    refine Eq.mp ?_ hQ
    kernel_rfl
  · rename_i h; have h := of_decide_eq_false h
    conv => whnf
    split
    · rename_i h2; have h2 := of_decide_eq_true h2
      rw [if_neg (by omega)] at hQ
      conv => whnf
      refine Eq.mp ?_ hQ
      kernel_rfl
    · rename_i h2; have h2 := of_decide_eq_false h2
      rw [if_pos (by omega)] at hQ
      conv => whnf
      refine Eq.mp ?_ hQ
      kernel_rfl
set_option maxRecDepth 100000 in
theorem f76_ok (k : Int) (T : Tab) (Q : AOut → Prop) (hQ : Q (.ret (.int .i64 (replK k)))) (N : Nat) : abody Tryd.prog T 0 N Tryd.f76 [.int .i64 k] [] (fun out Hs => Q (frzO Hs out)) := by
  unfold replK at hQ
  conv => whnf
  split
  · rename_i h; have h := of_decide_eq_true h
    conv => whnf
    split
    · rename_i h2; have h2 := of_decide_eq_true h2
      rw [if_pos (by omega)] at hQ
      conv => whnf
      refine Eq.mp ?_ hQ
      kernel_rfl
    · rename_i h2; have h2 := of_decide_eq_false h2
      rw [if_neg (by omega)] at hQ
      conv => whnf
      refine Eq.mp ?_ hQ
      kernel_rfl
  · rename_i h; have h := of_decide_eq_false h
    rw [if_neg (by omega)] at hQ
    conv => whnf
    refine Eq.mp ?_ hQ
    kernel_rfl

def txtG (f : Int → ByteArray → List (List Int) → List Int) : GSpec := fun args K => match args with
  | [.int .i64 k, .str s, .slice es] => ∃ ps, es = partsA ps ∧ okP ps ∧ s.size ≤ 1000 ∧ K (.ret (.slice (bsA (f k s ps))))
  | _ => False
theorem txtG_det (f : Int → ByteArray → List (List Int) → List Int) (args : List AV) : Det (txtG f args) := by
  unfold txtG
  repeat' (first | exact Det.no | exact Det.at _ | refine Det.and ?_ | refine Det.ex fun _ => ?_ | refine Det.cond ?_ ?_ | split)
theorem parts3 (k : Int) (s : ByteArray) : partsA [signT, encI k, strL s] = [[.slice [[.int .u8 115], [.int .u8 105], [.int .u8 103], [.int .u8 110]]], [.slice (bsA (encI k))], [.slice (bytesA s)]] := by
  rw [bytesA_eq]; rfl

set_option maxRecDepth 100000 in
set_option maxHeartbeats 4000000 in
theorem f122_ok (k : Int) (s : ByteArray) (ps : List (List Int)) (hp : okP ps) (hs : s.size ≤ 1000) (T : Tab) (Q : AOut → Prop) (hQ : Q (.ret (.slice (bsA (textK k s ps))))) (N : Nat) :
    abody Tryd.prog (ext (ext (ext T 139 (flatT g139)) 84 (freshT g84)) 141 (freshT g141)) 0 N Tryd.f122 [.int .i64 k, .str s, .slice (partsA ps)] [] (fun out Hs => Q (frzO Hs out)) := by
  unfold textK at hQ
  obtain ⟨hp1, hp2, hp3⟩ := hp
  have h3 := textP_len k s
  conv => whnf
  cases hr : rightK k with
  | false =>
    rw [hr] at hQ
    conv => whnf
    refine Eq.mp ?_ hQ
    kernel_rfl
  | true =>
    rw [hr] at hQ
    have hk : 0 ≤ k ∧ k ≤ 127 := by simpa [rightK] using hr
    have hki : okI k = true := by simp [okI]; omega
    conv => whnf
    split
    rotate_left
    · rename_i h; rw [hki] at h; cases h
    conv => whnf
    refine ⟨[signT, encI k, strL s], (Eq.trans (by kernel_rfl) (parts3 k s).symm), by simp, by omega, ?_⟩
    conv => whnf
    refine ⟨ps, rfl, hp1, by omega, ?_⟩
    conv => whnf
    refine ⟨fits_at (ys' := bsA (packL ps)) (by kernel_rfl) (by show FitsA _ 1 1 (bsA (packL [signT, encI k, strL s])).length; rw [bsA_length]; exact fits_bs (by omega)), ?_⟩
    conv => whnf
    have hQ' : Q (.ret (.slice (bsA (packL ([signT, encI k, strL s] ++ ps))))) := hQ
    rw [packL_app, bsA_append (packL [signT, encI k, strL s]) (packL ps)] at hQ'
    refine Eq.mp ?_ hQ'
    kernel_rfl

set_option maxRecDepth 100000 in
set_option maxHeartbeats 4000000 in
theorem f78_ok (k : Int) (s : ByteArray) (ps : List (List Int)) (hp : okP ps) (hs : s.size ≤ 1000) (T : Tab) (Q : AOut → Prop) (hQ : Q (.ret (.slice (bsA (textK k s ps))))) (N : Nat) :
    abody Tryd.prog (ext (ext T 95 (freshT g84)) 124 (freshT g141)) 0 N Tryd.f78 [.int .i64 k, .str s, .slice (partsA ps)] [] (fun out Hs => Q (frzO Hs out)) := by
  unfold textK at hQ
  obtain ⟨hp1, hp2, hp3⟩ := hp
  have h3 := textP_len k s
  have hlen := packL_many ps hp3
  have no : ∀ hr : rightK k = false, Q (.ret (.slice (bsA []))) := fun hr => by rw [hr] at hQ; exact hQ
  conv => whnf
  split
  · rename_i h; have h := of_decide_eq_true h
    conv => whnf
    refine Eq.mp ?_ (no (by simp [rightK]; omega))
    kernel_rfl
  rename_i h; have h := of_decide_eq_false h
  conv => whnf
  split
  · rename_i h2; have h2 := of_decide_eq_true h2
    conv => whnf
    refine Eq.mp ?_ (no (by simp [rightK]; omega))
    kernel_rfl
  rename_i h2; have h2 := of_decide_eq_false h2
  have hr : rightK k = true := by simp [rightK]; omega
  rw [hr] at hQ
  have hki : okI k = true := by simp [okI]; omega
  conv => whnf
  split
  rotate_left
  · rename_i h; rw [hki] at h; cases h
  conv => whnf
  refine ⟨fits_at (ys' := partsA ps) (by kernel_rfl) ⟨fun x hx => by
    simp only [partsA, List.mem_map] at hx
    obtain ⟨_, _, rfl⟩ := hx
    rfl, by show (3 + (partsA ps).length) * 24 ≤ 140737488355328; rw [partsA_length]; omega, by show 3 + (partsA ps).length ≤ 140737488355328; rw [partsA_length]; omega⟩, ?_⟩
  conv => whnf
  refine ⟨textP k s ps, ?_, by simp [textP], by unfold textP; rw [packL_app, List.length_append]; omega, ?_⟩
  · refine Eq.trans (b := partsA [signT, encI k, strL s] ++ partsA ps) ?_ (by simp [partsA, textP])
    rw [parts3]
    kernel_rfl
  conv => whnf
  refine Eq.mp ?_ hQ
  kernel_rfl

theorem textP_ok (k : Int) (s : ByteArray) (ps : List (List Int)) (hp : okP ps) (hr : rightK k = true) : okB (packL (textP k s ps)) := by
  have hk : 0 ≤ k ∧ k ≤ 127 := by simpa [rightK] using hr
  refine packL_ok _ fun p h => ?_
  simp only [textP, List.mem_append, List.mem_cons, List.not_mem_nil, or_false] at h
  rcases h with (rfl | rfl | rfl) | h
  · intro b hb; simp only [signT, List.mem_cons, List.not_mem_nil, or_false] at hb; omega
  · exact okB_encI' hk.1
  · exact strL_ok s
  · exact hp.2.1 p h
theorem textP_le (k : Int) (s : ByteArray) (ps : List (List Int)) (hp : okP ps) (hs : s.size ≤ 1000) : (packL (textP k s ps)).length ≤ 1073741824 := by
  have h3 := textP_len k s
  have := hp.2.2
  unfold textP
  rw [packL_app, List.length_append]
  omega
set_option maxRecDepth 100000 in
theorem f121_ok (k : Int) (s : ByteArray) (ps : List (List Int)) (hp : okP ps) (hs : s.size ≤ 1000) (T : Tab) (Q : AOut → Prop) (hQ : Q (.ret (.slice (bsA (signK k s ps))))) (N : Nat) :
    abody Tryd.prog (ext (ext (ext T 139 (flatT g139)) 122 (pureT (txtG textK))) 140 (pureT g140)) 0 N Tryd.f121 [.int .i64 k, .str s, .slice (partsA ps)] [] (fun out Hs => Q (frzO Hs out)) := by
  unfold signK at hQ
  conv => whnf
  cases hr : rightK k with
  | false =>
    rw [hr] at hQ
    conv => whnf
    refine Eq.mp ?_ hQ
    kernel_rfl
  | true =>
    rw [hr] at hQ
    conv => whnf
    refine ⟨ps, rfl, hp, hs, ?_⟩
    have ht : textK k s ps = packL (textP k s ps) := by unfold textK; rw [hr]; rfl
    rw [ht]
    conv => whnf
    refine ⟨packL (textP k s ps), rfl, textP_ok k s ps hp hr, textP_le k s ps hp hs, ?_⟩
    conv => whnf
    refine Eq.mp ?_ hQ
    kernel_rfl
theorem packL_pos : ∀ {ps : List (List Int)}, ps ≠ [] → 0 < (packL ps).length
  | p :: r, _ => by
    have h1 := encI_pos p.length
    simp only [packL, List.map_cons, List.flatten_cons, List.length_append, encB]
    omega
set_option maxRecDepth 100000 in
theorem f75_ok (k : Int) (s : ByteArray) (ps : List (List Int)) (hp : okP ps) (hs : s.size ≤ 1000) (T : Tab) (Q : AOut → Prop) (hQ : Q (.ret (.slice (bsA (signK k s ps))))) (N : Nat) :
    abody Tryd.prog (ext (ext T 78 (pureT (txtG textK))) 123 (pureT g123)) 0 N Tryd.f75 [.int .i64 k, .str s, .slice (partsA ps)] [] (fun out Hs => Q (frzO Hs out)) := by
  unfold signK at hQ
  conv => whnf
  refine ⟨ps, rfl, hp, hs, ?_⟩
  cases hr : rightK k with
  | false =>
    rw [hr] at hQ
    have ht : textK k s ps = [] := by unfold textK; rw [hr]; rfl
    rw [ht]
    conv => whnf
    refine Eq.mp ?_ hQ
    kernel_rfl
  | true =>
    rw [hr] at hQ
    have ht : textK k s ps = packL (textP k s ps) := by unfold textK; rw [hr]; rfl
    rw [ht]
    conv => whnf
    refine ⟨packL (textP k s ps), rfl, textP_ok k s ps hp hr, textP_le k s ps hp hs, ?_⟩
    conv => whnf
    refine Eq.mp ?_ hQ
    kernel_rfl
set_option maxRecDepth 100000 in
theorem s139 {T : Tab} (hT : TGood Tryd.prog T) : SGood Tryd.prog 139 (flatT g139) := flatT_good g139_det g139_flat fun args Q h => by
  unfold g139 at h
  split at h
  · exact body_pure hT mixedT Tryd.func139 (entersOf Tryd.func139 (by kernel_rfl) rfl) 0 (f139_ok _ T Q h 0)
  · exact h.elim
set_option maxRecDepth 100000 in
theorem s120 {T : Tab} (hT : TGood Tryd.prog T) : SGood Tryd.prog 120 (flatT g120) := flatT_good g120_det g120_flat fun args Q h => by
  unfold g120 at h
  split at h
  · exact body_pure hT mixedT Tryd.func120 (entersOf Tryd.func120 (by kernel_rfl) rfl) 0 (f120_ok _ T Q h 0)
  · exact h.elim
set_option maxRecDepth 100000 in
theorem s76 {T : Tab} (hT : TGood Tryd.prog T) : SGood Tryd.prog 76 (flatT g120) := flatT_good g120_det g120_flat fun args Q h => by
  unfold g120 at h
  split at h
  · exact body_pure hT mixedT Tryd.func76 (entersOf Tryd.func76 (by kernel_rfl) rfl) 0 (f76_ok _ T Q h 0)
  · exact h.elim
set_option maxRecDepth 100000 in
theorem s122 {T : Tab} (hT : TGood Tryd.prog T) : SGood Tryd.prog 122 (pureT (txtG textK)) := pureT_good (txtG_det textK) fun args Q h => by
  unfold txtG at h
  split at h
  · obtain ⟨ps, rfl, hp, hs, hQ⟩ := h
    have t0 := ext_good hT (s139 hT)
    have t1 := ext_good t0 (s84 t0)
    have t2 := ext_good t1 (s141 t1)
    exact body_pure t2 mixedT Tryd.func122 (entersOf Tryd.func122 (by kernel_rfl) rfl) 0 (f122_ok _ _ ps hp hs T Q hQ 0)
  · exact h.elim
set_option maxRecDepth 100000 in
theorem s78 {T : Tab} (hT : TGood Tryd.prog T) : SGood Tryd.prog 78 (pureT (txtG textK)) := pureT_good (txtG_det textK) fun args Q h => by
  unfold txtG at h
  split at h
  · obtain ⟨ps, rfl, hp, hs, hQ⟩ := h
    have t0 := ext_good hT (s95 hT)
    have t1 := ext_good t0 (s124 t0)
    exact body_pure t1 mixedT Tryd.func78 (entersOf Tryd.func78 (by kernel_rfl) rfl) 0 (f78_ok _ _ ps hp hs T Q hQ 0)
  · exact h.elim
set_option maxRecDepth 100000 in
theorem s121 {T : Tab} (hT : TGood Tryd.prog T) : SGood Tryd.prog 121 (pureT (txtG signK)) := pureT_good (txtG_det signK) fun args Q h => by
  unfold txtG at h
  split at h
  · obtain ⟨ps, rfl, hp, hs, hQ⟩ := h
    have t0 := ext_good hT (s139 hT)
    have t1 := ext_good t0 (s122 t0)
    have t2 := ext_good t1 (s140 t1)
    exact body_pure t2 mixedT Tryd.func121 (entersOf Tryd.func121 (by kernel_rfl) rfl) 0 (f121_ok _ _ ps hp hs T Q hQ 0)
  · exact h.elim
set_option maxRecDepth 100000 in
theorem s75 {T : Tab} (hT : TGood Tryd.prog T) : SGood Tryd.prog 75 (pureT (txtG signK)) := pureT_good (txtG_det signK) fun args Q h => by
  unfold txtG at h
  split at h
  · obtain ⟨ps, rfl, hp, hs, hQ⟩ := h
    have t0 := ext_good hT (s78 hT)
    have t1 := ext_good t0 (s123 t0)
    exact body_pure t1 mixedT Tryd.func75 (entersOf Tryd.func75 (by kernel_rfl) rfl) 0 (f75_ok _ _ ps hp hs T Q hQ 0)
  · exact h.elim
end Go.Abs

