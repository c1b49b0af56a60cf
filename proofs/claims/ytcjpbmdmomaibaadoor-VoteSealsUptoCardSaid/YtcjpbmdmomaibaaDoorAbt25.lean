/-
vote.sigOf, catenaryref06.one, domain, slices.Clone[Report] of one report are what they come to.
-/
import Derived.Test.YtcjpbmdmomaibaaDoorAbt21
import Derived.Test.YtcjpbmdmomaibaaDoorAbt9
import Derived.Test.YtcjpbmdmomaibaaDoorAbt12
import Derived.Test.YtcjpbmdmomaibaaDoorAbt6
import Derived.Test.YtcjpbmdmomaibaaDoorAbt23
namespace Go.Abs
open Go Go.Proofs

def oneM (m : MsV) : Bool := (m.kind == 8) && ((m.reports.length : Int) == 1)
def reportS : ByteArray := ⟨#[114, 101, 112, 111, 114, 116]⟩
def messageS : ByteArray := ⟨#[109, 101, 115, 115, 97, 103, 101]⟩
def domS (m : MsV) : ByteArray := cond (oneM m) reportS messageS
def sigM (m : MsV) : List Int := match oneM m, m.reports with
  | true, r :: _ => r.sig
  | _, _ => m.sig
def g74 : GSpec := fun args K => match args with
  | [.agg cs] => ∃ m : MsV, cs = msC m ∧ K (.ret (.bool (oneM m)))
  | _ => False
def g77 : GSpec := fun args K => match args with
  | [.agg cs] => ∃ m : MsV, cs = msC m ∧ K (.ret (.str (domS m)))
  | _ => False
def g72 : GSpec := fun args K => match args with
  | [.agg cs] => ∃ m : MsV, cs = msC m ∧ K (.ret (.slice (bsA (sigM m))))
  | _ => False
def g69 : FSpec := fun args K => match args with
  | [.slice es] => ∃ r : RpV, es = [rpC r] ∧ K (.ret (.row 0)) [.row true 70 8 [rpC r]]
  | _ => False
theorem g69_det (args : List AV) : DetF (g69 args) := by
  unfold g69
  repeat' (first | exact DetF.no | exact DetF.at _ _ | refine DetF.and ?_ | refine DetF.ex fun _ => ?_ | refine DetF.cond ?_ ?_ | split)

theorem g74_det (args : List AV) : Det (g74 args) := by
  unfold g74
  repeat' (first | exact Det.no | exact Det.at _ | refine Det.and ?_ | refine Det.ex fun _ => ?_ | refine Det.cond ?_ ?_ | split)
theorem g74_flat (args : List AV) (o : AOut) (h : g74 args (· = o)) : flatO o = true := by
  unfold g74 at h
  split at h
  · obtain ⟨_, _, rfl⟩ := h; rfl
  · exact h.elim
theorem g77_det (args : List AV) : Det (g77 args) := by
  unfold g77
  repeat' (first | exact Det.no | exact Det.at _ | refine Det.and ?_ | refine Det.ex fun _ => ?_ | refine Det.cond ?_ ?_ | split)
theorem g77_flat (args : List AV) (o : AOut) (h : g77 args (· = o)) : flatO o = true := by
  unfold g77 at h
  split at h
  · obtain ⟨_, _, rfl⟩ := h; rfl
  · exact h.elim
theorem g72_det (args : List AV) : Det (g72 args) := by
  unfold g72
  repeat' (first | exact Det.no | exact Det.at _ | refine Det.and ?_ | refine Det.ex fun _ => ?_ | refine Det.cond ?_ ?_ | split)
@[simp] theorem rpCL_length (l : List RpV) : (rpCL l).length = l.length := by simp [rpCL]
set_option maxRecDepth 100000 in
theorem f74_ok (m : MsV) (T : Tab) (Q : AOut → Prop) (hQ : Q (.ret (.bool (oneM m)))) (N : Nat) : abody Tryd.prog T 0 N Tryd.f74 [.agg (msC m)] [] (fun out Hs => Q (frzO Hs out)) := by
  have hl : ((rpCL m.reports).length : Int) = m.reports.length := by rw [rpCL_length]
  unfold oneM at hQ
  rw [← hl] at hQ
  conv => whnf
  split
  · rename_i h; rw [h] at hQ
    conv => whnf
    refine Eq.mp ?_ hQ
    kernel_rfl
  · rename_i h; rw [h] at hQ
    conv => whnf
    refine Eq.mp ?_ hQ
    kernel_rfl
set_option maxRecDepth 100000 in
theorem f77_ok (m : MsV) (T : Tab) (Q : AOut → Prop) (hQ : Q (.ret (.str (domS m)))) (N : Nat) : abody Tryd.prog (ext T 74 (flatT g74)) 0 N Tryd.f77 [.agg (msC m)] [] (fun out Hs => Q (frzO Hs out)) := by
  unfold domS at hQ
  conv => whnf
  refine ⟨m, rfl, ?_⟩
  cases h1 : oneM m with
  | true =>
    rw [h1] at hQ
    conv => whnf
    refine Eq.mp ?_ hQ
    kernel_rfl
  | false =>
    rw [h1] at hQ
    conv => whnf
    refine Eq.mp ?_ hQ
    kernel_rfl
set_option maxRecDepth 100000 in
theorem f69_ok (r : RpV) (T : Tab) (Q : AOut → Heap → Prop) (hQ : Q (.ret (.row 0)) [.row true 70 8 [rpC r]]) (N : Nat) : abody Tryd.prog T 0 N Tryd.f69 [.slice [rpC r]] [] Q := by
  conv => whnf
  refine ⟨fits_one rfl (by decide) (by decide), ?_⟩
  conv => whnf
  refine Eq.mp ?_ hQ
  kernel_rfl
set_option maxRecDepth 100000 in
theorem f72_ok (m : MsV) (T : Tab) (Q : AOut → Prop) (hQ : Q (.ret (.slice (bsA (sigM m))))) (N : Nat) : abody Tryd.prog T 0 N Tryd.f72 [.agg (msC m)] [] (fun out Hs => Q (frzO Hs out)) := by
  have hl : ((rpCL m.reports).length : Int) = m.reports.length := by rw [rpCL_length]
  conv => whnf
  split
  · rename_i h
    have hk : m.kind = 8 := of_decide_eq_true h
    conv => whnf
    split
    · rename_i h1
      have h1 := of_decide_eq_true h1
      rw [hl] at h1
      obtain ⟨r, hr⟩ : ∃ r, m.reports = [r] := List.length_eq_one_iff.1 (by omega)
      have hs : sigM m = r.sig := by unfold sigM oneM; rw [hr, hk]; rfl
      rw [hs] at hQ
      rw [hr]
      conv => whnf
      refine ⟨by decide, by show (0 : Int) < 1; decide, rpC r, by kernel_rfl, by kernel_rfl, ?_⟩
      conv => whnf
      refine Eq.mp ?_ hQ
      kernel_rfl
    · rename_i h1
      have h1 := of_decide_eq_false h1
      rw [hl] at h1
      have hs : sigM m = m.sig := by
        unfold sigM
        rw [show oneM m = false by unfold oneM; rw [show ((m.reports.length : Int) == 1) = false from beq_eq_false_iff_ne.2 h1, Bool.and_false]]
      rw [hs] at hQ
      conv => whnf
      refine Eq.mp ?_ hQ
      kernel_rfl
  · rename_i h
    have h := of_decide_eq_false h
    have hs : sigM m = m.sig := by
      unfold sigM
      rw [show oneM m = false by unfold oneM; rw [show (m.kind == 8) = false from beq_eq_false_iff_ne.2 h, Bool.false_and]]
    rw [hs] at hQ
    conv => whnf
    refine Eq.mp ?_ hQ
    kernel_rfl

set_option maxRecDepth 100000 in
theorem s74 {T : Tab} (hT : TGood Tryd.prog T) : SGood Tryd.prog 74 (flatT g74) := flatT_good g74_det g74_flat fun args Q h => by
  unfold g74 at h
  split at h
  · obtain ⟨m, rfl, hQ⟩ := h
    exact body_pure hT mixedT Tryd.func74 (entersOf Tryd.func74 (by kernel_rfl) rfl) 0 (f74_ok m T Q hQ 0)
  · exact h.elim
set_option maxRecDepth 100000 in
theorem s77 {T : Tab} (hT : TGood Tryd.prog T) : SGood Tryd.prog 77 (flatT g77) := flatT_good g77_det g77_flat fun args Q h => by
  unfold g77 at h
  split at h
  · obtain ⟨m, rfl, hQ⟩ := h
    have t0 := ext_good hT (s74 hT)
    exact body_pure t0 mixedT Tryd.func77 (entersOf Tryd.func77 (by kernel_rfl) rfl) 0 (f77_ok m T Q hQ 0)
  · exact h.elim
set_option maxRecDepth 100000 in
theorem s72 {T : Tab} (hT : TGood Tryd.prog T) : SGood Tryd.prog 72 (pureT g72) := pureT_good g72_det fun args Q h => by
  unfold g72 at h
  split at h
  · obtain ⟨m, rfl, hQ⟩ := h
    exact body_pure hT mixedT Tryd.func72 (entersOf Tryd.func72 (by kernel_rfl) rfl) 0 (f72_ok m T Q hQ 0)
  · exact h.elim
set_option maxRecDepth 100000 in
theorem s69 {T : Tab} (hT : TGood Tryd.prog T) : SGood Tryd.prog 69 (freshT g69) := freshT_good g69_det fun args Q h => by
  unfold g69 at h
  split at h
  · obtain ⟨r, rfl, hQ⟩ := h
    exact body_fresh hT mixedT Tryd.func69 (entersOf Tryd.func69 (by kernel_rfl) rfl) 0 (f69_ok r T Q hQ 0)
  · exact h.elim
end Go.Abs

/-
vote.sealed is what it comes to.
-/
namespace Go.Abs
open Go Go.Proofs

def withSig (m : MsV) (s : List Int) : MsV := cond (oneM m) { m with reports := m.reports.map fun r => { r with sig := s } } { m with sig := s }
def bareM (m : MsV) : MsV := withSig m []
def sealB (m : MsV) : List Int := cond (encE (bareM m) == 0) (encS (bareM m) 15).1 []
theorem one_cases (m : MsV) : (∃ r, oneM m = true ∧ m.kind = 8 ∧ m.reports = [r]) ∨ oneM m = false := by
  unfold oneM
  by_cases h1 : m.kind = 8
  · by_cases h2 : (m.reports.length : Int) = 1
    · obtain ⟨r, hr⟩ : ∃ r, m.reports = [r] := List.length_eq_one_iff.1 (by omega)
      exact .inl ⟨r, by rw [h1, hr]; rfl, h1, hr⟩
    · exact .inr (by rw [show ((m.reports.length : Int) == 1) = false from beq_eq_false_iff_ne.2 h2, Bool.and_false])
  · exact .inr (by rw [show (m.kind == 8) = false from beq_eq_false_iff_ne.2 h1, Bool.false_and])
theorem bare_ok {m : MsV} (h : OkM m) : OkM (bareM m) := by
  have hn : okT ([] : List Int) := ⟨fun b hb => absurd hb List.not_mem_nil, Nat.zero_le _⟩
  rcases one_cases m with ⟨r, h1, h2, h3⟩ | h1
  · have : bareM m = { m with reports := [{ r with sig := [] }] } := by unfold bareM withSig; rw [h1, h3]; rfl
    rw [this]
    obtain ⟨a1, a2, a3, a4, a5, a6, a7, a8, a9⟩ := h
    refine ⟨a1, a2, a3, a4, a5, a6, a7, a8, by simp, fun v hv => ?_⟩
    simp only [List.mem_singleton] at hv
    subst hv
    obtain ⟨b1, b2, b3, b4⟩ := a9.2 r (by rw [h3]; simp)
    exact ⟨b1, b2, b3, hn⟩
  · have : bareM m = { m with sig := [] } := by unfold bareM withSig; rw [h1]; rfl
    rw [this]
    obtain ⟨a1, a2, a3, a4, a5, a6, a7, a8, a9⟩ := h
    exact ⟨a1, a2, a3, hn, a5, a6, a7, a8, a9⟩
theorem bare_c (m : MsV) : cM (bareM m) ≤ cM m := by
  rcases one_cases m with ⟨r, h1, h2, h3⟩ | h1
  · have : bareM m = { m with reports := [{ r with sig := [] }] } := by unfold bareM withSig; rw [h1, h3]; rfl
    rw [this]
    simp only [cM, h3, sumN, List.map_cons, List.map_nil, List.sum_cons, List.sum_nil, cRp, cT, List.length_nil]
    omega
  · have : bareM m = { m with sig := [] } := by unfold bareM withSig; rw [h1]; rfl
    rw [this]
    simp only [cM, cT, List.length_nil]
    omega

def g67 : GSpec := fun args K => match args with
  | [.agg cs, .int .i64 signer] => ∃ m : MsV, cs = msC m ∧ OkM m ∧ cM m ≤ 1073741824 ∧ K (.ret (.tuple [.agg [.int .i64 (replK signer), .str (domS m), .slice (partsA [sealB m])], .bool (encE (bareM m) == 0)]))
  | _ => False
theorem g67_det (args : List AV) : Det (g67 args) := by
  unfold g67
  repeat' (first | exact Det.no | exact Det.at _ | refine Det.and ?_ | refine Det.ex fun _ => ?_ | refine Det.cond ?_ ?_ | split)
def t67 (T : Tab) : Tab := ext (ext (ext T 69 (freshT g69)) 16 (freshT g16)) 120 (flatT g120)

set_option maxRecDepth 100000 in
set_option maxHeartbeats 8000000 in
theorem f67_one (m : MsV) (r : RpV) (h1 : oneM m = true) (hk : m.kind = 8) (hr : m.reports = [r]) (hm : OkM m) (hc : cM m ≤ 1073741824) (signer : Int) (T : Tab) (Q : AOut → Prop)
    (hQ : Q (.ret (.tuple [.agg [.int .i64 (replK signer), .str (domS m), .slice (partsA [sealB m])], .bool (encE (bareM m) == 0)]))) (N : Nat) :
    abody Tryd.prog (t67 T) 0 N Tryd.f67 [.agg (msC m), .int .i64 signer] [] (fun out Hs => Q (frzO Hs out)) := by
  have hb := bare_ok hm
  have hbc := Nat.le_trans (bare_c m) hc
  have hbe : bareM m = { m with reports := [{ r with sig := [] }] } := by unfold bareM withSig; rw [h1, hr]; rfl
  have hd : domS m = reportS := by unfold domS; rw [h1]; rfl
  unfold sealB at hQ
  rw [hd] at hQ
  generalize bareM m = m' at hb hbc hbe hQ
  obtain ⟨kind, bal, slot, from_, to, index, count, req, other, data, sig, cert, votes, order, picks, reports⟩ := m
  dsimp only at hk hr hbe
  subst hk; subst hr
  conv => whnf
  refine ⟨r, rfl, ?_⟩
  conv => whnf
  refine ⟨by kernel_rfl, by decide, by show (0 : Int) < 1; decide, ?_⟩
  conv => whnf
  refine ⟨rpC r, by kernel_rfl, of_decide_eq_true (by kernel_rfl), ?_⟩
  conv => whnf
  refine ⟨m', ?_, hb, hbc, ?_⟩
  · rw [hbe]; kernel_rfl
  clear hb hbc hbe
  unfold encK
  generalize (encS m' 15).1 = bs at hQ ⊢
  cases he : (encE m' == 0) with
  | true =>
    rw [he] at hQ
    have hQ2 : Q (.ret (.tuple [.agg [.int .i64 (replK signer), .str reportS, .slice [[.slice (((bsA bs).drop 0).take bs.length)]]], .bool true])) := by
      rw [List.drop_zero, List.take_of_length_le (by simp)]
      exact hQ
    conv => whnf
    refine Eq.mp ?_ hQ2
    kernel_rfl
  | false =>
    rw [he] at hQ
    have hQ2 : Q (.ret (.tuple [.agg [.int .i64 (replK signer), .str reportS, .slice (partsA [[]])], .bool (encE m' == 0)])) := by
      rw [he]
      exact hQ
    conv => whnf
    refine Eq.mp ?_ hQ2
    kernel_rfl

set_option maxRecDepth 100000 in
set_option maxHeartbeats 8000000 in
theorem f67_not (m : MsV) (h1 : oneM m = false) (hm : OkM m) (hc : cM m ≤ 1073741824) (signer : Int) (T : Tab) (Q : AOut → Prop)
    (hQ : Q (.ret (.tuple [.agg [.int .i64 (replK signer), .str (domS m), .slice (partsA [sealB m])], .bool (encE (bareM m) == 0)]))) (N : Nat) :
    abody Tryd.prog (t67 T) 0 N Tryd.f67 [.agg (msC m), .int .i64 signer] [] (fun out Hs => Q (frzO Hs out)) := by
  have hb := bare_ok hm
  have hbc := Nat.le_trans (bare_c m) hc
  have hbe : bareM m = { m with sig := [] } := by unfold bareM withSig; rw [h1]; rfl
  have hd : domS m = messageS := by unfold domS; rw [h1]; rfl
  have hl : ((rpCL m.reports).length : Int) = m.reports.length := by rw [rpCL_length]
  unfold sealB at hQ
  rw [hd] at hQ
  unfold oneM at h1
  rw [← hl] at h1
  generalize bareM m = m' at hb hbc hbe hQ
  conv => whnf
  split
  · rename_i h; rw [h] at h1
    conv => whnf
    split
    · rename_i h2
      have h2' : (true && (((rpCL m.reports).length : Int) == 1)) = true := h2
      rw [h2'] at h1; cases h1
    conv => whnf
    refine ⟨m', ?_, hb, hbc, ?_⟩
    · rw [hbe]; kernel_rfl
    clear hb hbc hbe
    unfold encK
    generalize (encS m' 15).1 = bs at hQ ⊢
    cases he : (encE m' == 0) with
    | true =>
      rw [he] at hQ
      have hQ2 : Q (.ret (.tuple [.agg [.int .i64 (replK signer), .str messageS, .slice [[.slice (((bsA bs).drop 0).take bs.length)]]], .bool true])) := by
        rw [List.drop_zero, List.take_of_length_le (by simp)]
        exact hQ
      conv => whnf
      refine Eq.mp ?_ hQ2
      kernel_rfl
    | false =>
      rw [he] at hQ
      have hQ2 : Q (.ret (.tuple [.agg [.int .i64 (replK signer), .str messageS, .slice (partsA [[]])], .bool (encE m' == 0)])) := by
        rw [he]
        exact hQ
      conv => whnf
      refine Eq.mp ?_ hQ2
      kernel_rfl
  · rename_i h
    conv => whnf
    refine ⟨m', ?_, hb, hbc, ?_⟩
    · rw [hbe]; kernel_rfl
    clear hb hbc hbe
    unfold encK
    generalize (encS m' 15).1 = bs at hQ ⊢
    cases he : (encE m' == 0) with
    | true =>
      rw [he] at hQ
      have hQ2 : Q (.ret (.tuple [.agg [.int .i64 (replK signer), .str messageS, .slice [[.slice (((bsA bs).drop 0).take bs.length)]]], .bool true])) := by
        rw [List.drop_zero, List.take_of_length_le (by simp)]
        exact hQ
      conv => whnf
      refine Eq.mp ?_ hQ2
      kernel_rfl
    | false =>
      rw [he] at hQ
      have hQ2 : Q (.ret (.tuple [.agg [.int .i64 (replK signer), .str messageS, .slice (partsA [[]])], .bool (encE m' == 0)])) := by
        rw [he]
        exact hQ
      conv => whnf
      refine Eq.mp ?_ hQ2
      kernel_rfl
set_option maxRecDepth 100000 in
theorem s67 {T : Tab} (hT : TGood Tryd.prog T) : SGood Tryd.prog 67 (pureT g67) := pureT_good g67_det fun args Q h => by
  unfold g67 at h
  split at h
  · obtain ⟨m, rfl, hm, hc, hQ⟩ := h
    have t0 := ext_good hT (s69 hT)
    have t1 := ext_good t0 (s16 t0)
    have t2 : TGood Tryd.prog (t67 _) := ext_good t1 (s120 t1)
    rcases one_cases m with ⟨r, h1, h2, h3⟩ | h1
    · exact body_pure t2 mixedT Tryd.func67 (entersOf Tryd.func67 (by kernel_rfl) rfl) 0 (f67_one m r h1 h2 h3 hm hc _ T Q hQ 0)
    · exact body_pure t2 mixedT Tryd.func67 (entersOf Tryd.func67 (by kernel_rfl) rfl) 0 (f67_not m h1 hm hc _ T Q hQ 0)
  · exact h.elim
end Go.Abs

/-
vote.SealText, Seal, Sealed are what they come to.
-/
namespace Go.Abs
open Go Go.Proofs

theorem encS_okB' {m : MsV} (hm : OkM m) : ∀ i, okB (encS m i).1
  | 0 => wNum_b _ _ (fun b hb => absurd hb List.not_mem_nil)
  | i + 1 => by
    have h := encS_okB' hm i
    unfold encS
    cases hasF m.kind i with
    | true => exact wField_b hm i _ h
    | false => exact h
theorem encE_le {m : MsV} (h : (encE m == 0) = true) : (encS m 15).1.length ≤ 1048576 := by
  have h : encE m = 0 := of_decide_eq_true h
  unfold encE at h
  split at h
  · cases h
  split at h
  · cases h
  split at h
  · cases h
  split at h
  · cases h
  omega
theorem seal_okP {m : MsV} (hm : OkM m) (h : (encE (bareM m) == 0) = true) : okP [sealB m] := by
  have h1 := encS_okB' (bare_ok hm) 15
  have h2 := encE_le h
  have hb : sealB m = (encS (bareM m) 15).1 := by unfold sealB; rw [h]; rfl
  rw [hb]
  refine ⟨by simp, fun p hp => ?_, ?_⟩
  · rw [List.mem_singleton] at hp; subst hp; exact h1
  · have h3 := encI_len ((encS (bareM m) 15).1.length)
    simp only [packL, encB, List.map_cons, List.map_nil, List.flatten_cons, List.flatten_nil, List.length_append, List.length_nil]
    omega
theorem domS_le (m : MsV) : (domS m).size ≤ 1000 := by
  unfold domS
  cases oneM m <;> decide
def sealT (m : MsV) (signer : Int) : List Int := cond (encE (bareM m) == 0) (textK (replK signer) (domS m) [sealB m]) []
def sealS (m : MsV) (signer : Int) : List Int := cond (encE (bareM m) == 0) (signK (replK signer) (domS m) [sealB m]) []
def sealOk (m : MsV) (signer : Int) : Bool := cond (encE (bareM m) == 0) (cond (decide (((bsA (textK (replK signer) (domS m) [sealB m])).length : Int) > 0)) (decide (sigM m = signK (replK signer) (domS m) [sealB m])) false) false

def g28 : GSpec := fun args K => match args with
  | [.agg cs, .int .i64 signer] => ∃ m : MsV, cs = msC m ∧ OkM m ∧ cM m ≤ 1073741824 ∧ K (.ret (.slice (bsA (sealT m signer))))
  | _ => False
theorem g28_det (args : List AV) : Det (g28 args) := by
  unfold g28
  repeat' (first | exact Det.no | exact Det.at _ | refine Det.and ?_ | refine Det.ex fun _ => ?_ | refine Det.cond ?_ ?_ | split)
def g27 : GSpec := fun args K => match args with
  | [.agg cs, .int .i64 signer] => ∃ m : MsV, cs = msC m ∧ OkM m ∧ cM m ≤ 1073741824 ∧ K (.ret (.agg (msC (withSig m (sealS m signer)))))
  | _ => False
theorem g27_det (args : List AV) : Det (g27 args) := by
  unfold g27
  repeat' (first | exact Det.no | exact Det.at _ | refine Det.and ?_ | refine Det.ex fun _ => ?_ | refine Det.cond ?_ ?_ | split)
def g29 : GSpec := fun args K => match args with
  | [.agg cs, .int .i64 signer] => ∃ m : MsV, cs = msC m ∧ OkM m ∧ cM m ≤ 1073741824 ∧ K (.ret (.bool (sealOk m signer)))
  | _ => False
theorem g29_det (args : List AV) : Det (g29 args) := by
  unfold g29
  repeat' (first | exact Det.no | exact Det.at _ | refine Det.and ?_ | refine Det.ex fun _ => ?_ | refine Det.cond ?_ ?_ | split)
theorem g29_flat (args : List AV) (o : AOut) (h : g29 args (· = o)) : flatO o = true := by
  unfold g29 at h
  split at h
  · obtain ⟨_, _, _, _, rfl⟩ := h; rfl
  · exact h.elim
set_option maxRecDepth 100000 in
set_option maxHeartbeats 8000000 in
theorem f28_ok (m : MsV) (hm : OkM m) (hc : cM m ≤ 1073741824) (signer : Int) (T : Tab) (Q : AOut → Prop) (hQ : Q (.ret (.slice (bsA (sealT m signer))))) (N : Nat) :
    abody Tryd.prog (ext (ext T 67 (pureT g67)) 70 (pureT (methG textK))) 0 N Tryd.f28 [.agg (msC m), .int .i64 signer] [] (fun out Hs => Q (frzO Hs out)) := by
  have hp := seal_okP hm
  have hd := domS_le m
  unfold sealT at hQ
  conv => whnf
  refine ⟨m, rfl, hm, hc, ?_⟩
  generalize (encE (bareM m) == 0) = e at hQ hp ⊢
  generalize sealB m = b at hQ hp ⊢
  generalize domS m = d at hQ hd ⊢
  generalize replK signer = k at hQ ⊢
  cases e with
  | false =>
    conv => whnf
    refine Eq.mp ?_ hQ
    kernel_rfl
  | true =>
    conv => whnf
    refine ⟨[b], by kernel_rfl, hp rfl, hd, ?_⟩
    replace hQ : Q (.ret (.slice (bsA (textK k d [b])))) := hQ
    generalize textK k d [b] = t at hQ ⊢
    conv => whnf
    refine Eq.mp ?_ hQ
    kernel_rfl
set_option maxRecDepth 100000 in
theorem s28 {T : Tab} (hT : TGood Tryd.prog T) : SGood Tryd.prog 28 (pureT g28) := pureT_good g28_det fun args Q h => by
  unfold g28 at h
  split at h
  · obtain ⟨m, rfl, hm, hc, hQ⟩ := h
    have t0 := ext_good hT (s67 hT)
    exact body_pure (ext_good t0 (s70 t0)) mixedT Tryd.func28 (entersOf Tryd.func28 (by kernel_rfl) rfl) 0 (f28_ok m hm hc _ T Q hQ 0)
  · exact h.elim

set_option maxRecDepth 100000 in
set_option maxHeartbeats 8000000 in
theorem f29_ok (m : MsV) (hm : OkM m) (hc : cM m ≤ 1073741824) (hsg : okB (sigM m)) (signer : Int) (T : Tab) (Q : AOut → Prop) (hQ : Q (.ret (.bool (sealOk m signer)))) (N : Nat) :
    abody Tryd.prog (ext (ext (ext (ext (ext T 67 (pureT g67)) 70 (pureT (methG textK))) 72 (pureT g72)) 68 (pureT (methG signK))) 71 (flatT g18)) 0 N Tryd.f29 [.agg (msC m), .int .i64 signer] [] (fun out Hs => Q (frzO Hs out)) := by
  have hp := seal_okP hm
  have hd := domS_le m
  unfold sealOk at hQ
  conv => whnf
  refine ⟨m, rfl, hm, hc, ?_⟩
  generalize (encE (bareM m) == 0) = e at hQ hp ⊢
  generalize sealB m = b at hQ hp ⊢
  generalize domS m = d at hQ hd ⊢
  generalize replK signer = k at hQ ⊢
  cases e with
  | false =>
    conv => whnf
    refine ⟨[], ?_⟩
    conv => whnf
    refine Eq.mp ?_ hQ
    kernel_rfl
  | true =>
    conv => whnf
    refine ⟨[], ?_⟩
    conv => whnf
    refine ⟨[b], rfl, hp rfl, hd, ?_⟩
    have hso : okB (signK k d [b]) := signK_ok _ _ _
    replace hQ : Q (.ret (.bool (cond (decide (((bsA (textK k d [b])).length : Int) > 0)) (decide (sigM m = signK k d [b])) false))) := hQ
    generalize textK k d [b] = t at hQ ⊢
    conv => whnf
    repeat (refine ⟨rfl, ?_⟩; conv => whnf)
    generalize decide (((bsA t).length : Int) > 0) = g at hQ ⊢
    cases g with
    | true =>
      replace hQ : Q (.ret (.bool (decide (sigM m = signK k d [b])))) := hQ
      conv => whnf
      refine ⟨m, rfl, ?_⟩
      generalize sigM m = s at hQ hsg ⊢
      conv => whnf
      repeat (refine ⟨rfl, ?_⟩; conv => whnf)
      refine ⟨[b], rfl, hp rfl, hd, ?_⟩
      generalize signK k d [b] = sg at hQ hso ⊢
      conv => whnf
      repeat (refine ⟨rfl, ?_⟩; conv => whnf)
      refine ⟨s, sg, rfl, rfl, hsg, hso, ?_⟩
      conv => whnf
      repeat (refine ⟨rfl, ?_⟩; conv => whnf)
      refine Eq.mp ?_ hQ
      kernel_rfl
    | false =>
      conv => whnf
      repeat (refine ⟨rfl, ?_⟩; conv => whnf)
      refine Eq.mp ?_ hQ
      kernel_rfl
theorem sigM_ok {m : MsV} (hm : OkM m) : okB (sigM m) := by
  rcases one_cases m with ⟨r, h1, h2, h3⟩ | h1
  · unfold sigM; rw [h1, h3]
    exact (hm.reports.2 r (by rw [h3]; simp)).2.2.2.1
  · unfold sigM; rw [h1]
    exact hm.sig.1
set_option maxRecDepth 100000 in
theorem s29 {T : Tab} (hT : TGood Tryd.prog T) : SGood Tryd.prog 29 (flatT g29) := flatT_good g29_det g29_flat fun args Q h => by
  unfold g29 at h
  split at h
  · obtain ⟨m, rfl, hm, hc, hQ⟩ := h
    have t0 := ext_good hT (s67 hT)
    have t1 := ext_good t0 (s70 t0)
    have t2 := ext_good t1 (s72 t1)
    have t3 := ext_good t2 (s68 t2)
    exact body_pure (ext_good t3 (s71 t3)) mixedT Tryd.func29 (entersOf Tryd.func29 (by kernel_rfl) rfl) 0 (f29_ok m hm hc (sigM_ok hm) _ T Q hQ 0)
  · exact h.elim
end Go.Abs

/-
vote.Seal is what it comes to.
-/
namespace Go.Abs
open Go Go.Proofs

def t27 (T : Tab) : Tab := ext (ext (ext T 67 (pureT g67)) 68 (pureT (methG signK))) 69 (freshT g69)

set_option maxRecDepth 100000 in
set_option maxHeartbeats 8000000 in
theorem f27_one (m : MsV) (r : RpV) (h1 : oneM m = true) (hk : m.kind = 8) (hr : m.reports = [r]) (hm : OkM m) (hc : cM m ≤ 1073741824) (signer : Int) (T : Tab) (Q : AOut → Prop) (hQ : Q (.ret (.agg (msC (withSig m (sealS m signer)))))) (N : Nat) :
    abody Tryd.prog (t27 T) 0 N Tryd.f27 [.agg (msC m), .int .i64 signer] [] (fun out Hs => Q (frzO Hs out)) := by
  have hp := seal_okP hm
  have hd := domS_le m
  have hw : ∀ s, withSig m s = { m with reports := [{ r with sig := s }] } := fun s => by unfold withSig; rw [h1, hr]; rfl
  rw [hw] at hQ
  clear hw
  unfold sealS at hQ
  conv => whnf
  refine ⟨m, rfl, hm, hc, ?_⟩
  generalize (encE (bareM m) == 0) = e at hQ hp ⊢
  generalize sealB m = b at hQ hp ⊢
  generalize domS m = d at hQ hd ⊢
  generalize replK signer = k at hQ ⊢
  clear hm hc
  obtain ⟨kind, bal, slot, from_, to, index, count, req, other, data, sig, cert, votes, order, picks, reports⟩ := m
  clear h1
  dsimp only at hk hr
  subst hk; subst hr
  cases e with
  | false =>
    conv => whnf
    refine ⟨r, rfl, ?_⟩
    conv => whnf
    refine ⟨by kernel_rfl, by decide, by show (0 : Int) < 1; decide, ?_⟩
    conv => whnf
    refine ⟨rpC r, by kernel_rfl, of_decide_eq_true (by kernel_rfl), ?_⟩
    conv => whnf
    refine Eq.mp ?_ hQ
    kernel_rfl
  | true =>
    conv => whnf
    refine ⟨[b], rfl, hp rfl, hd, ?_⟩
    generalize signK k d [b] = sg at hQ ⊢
    conv => whnf
    refine ⟨r, rfl, ?_⟩
    conv => whnf
    refine ⟨by kernel_rfl, by decide, by show (0 : Int) < 1; decide, ?_⟩
    conv => whnf
    refine ⟨rpC r, by kernel_rfl, of_decide_eq_true (by kernel_rfl), ?_⟩
    conv => whnf
    refine Eq.mp ?_ hQ
    kernel_rfl

set_option maxRecDepth 100000 in
set_option maxHeartbeats 8000000 in
theorem f27_not (m : MsV) (h1 : oneM m = false) (hm : OkM m) (hc : cM m ≤ 1073741824) (signer : Int) (T : Tab) (Q : AOut → Prop) (hQ : Q (.ret (.agg (msC (withSig m (sealS m signer)))))) (N : Nat) :
    abody Tryd.prog (t27 T) 0 N Tryd.f27 [.agg (msC m), .int .i64 signer] [] (fun out Hs => Q (frzO Hs out)) := by
  have hp := seal_okP hm
  have hd := domS_le m
  have hl : ((rpCL m.reports).length : Int) = m.reports.length := by rw [rpCL_length]
  have hw : ∀ s, withSig m s = { m with sig := s } := fun s => by unfold withSig; rw [h1]; rfl
  unfold oneM at h1
  rw [← hl] at h1
  clear hl
  rw [hw] at hQ
  clear hw
  unfold sealS at hQ
  conv => whnf
  refine ⟨m, rfl, hm, hc, ?_⟩
  generalize (encE (bareM m) == 0) = e at hQ hp ⊢
  generalize sealB m = b at hQ hp ⊢
  generalize domS m = d at hQ hd ⊢
  generalize replK signer = k at hQ ⊢
  clear hm hc
  obtain ⟨kind, bal, slot, from_, to, index, count, req, other, data, sig, cert, votes, order, picks, reports⟩ := m
  dsimp only at h1
  cases e with
  | false =>
    conv => whnf
    split
    · rename_i h
      have h : (kind == 8) = true := h
      rw [h] at h1
      conv => whnf
      split
      · rename_i h2
        have h2' : (true && (((rpCL reports).length : Int) == 1)) = true := h2
        rw [h2'] at h1; cases h1
      conv => whnf
      refine Eq.mp ?_ hQ
      kernel_rfl
    · rename_i h
      conv => whnf
      refine Eq.mp ?_ hQ
      kernel_rfl
  | true =>
    conv => whnf
    refine ⟨[b], rfl, hp rfl, hd, ?_⟩
    generalize signK k d [b] = sg at hQ ⊢
    conv => whnf
    split
    · rename_i h
      have h : (kind == 8) = true := h
      rw [h] at h1
      conv => whnf
      split
      · rename_i h2
        have h2' : (true && (((rpCL reports).length : Int) == 1)) = true := h2
        rw [h2'] at h1; cases h1
      conv => whnf
      refine Eq.mp ?_ hQ
      kernel_rfl
    · rename_i h
      conv => whnf
      refine Eq.mp ?_ hQ
      kernel_rfl

set_option maxRecDepth 100000 in
theorem s27 {T : Tab} (hT : TGood Tryd.prog T) : SGood Tryd.prog 27 (pureT g27) := pureT_good g27_det fun args Q h => by
  unfold g27 at h
  split at h
  · obtain ⟨m, rfl, hm, hc, hQ⟩ := h
    have t0 := ext_good hT (s67 hT)
    have t1 := ext_good t0 (s68 t0)
    have t2 : TGood Tryd.prog (t27 _) := ext_good t1 (s69 t1)
    rcases one_cases m with ⟨r, h1, h2, h3⟩ | h1
    · exact body_pure t2 mixedT Tryd.func27 (entersOf Tryd.func27 (by kernel_rfl) rfl) 0 (f27_one m r h1 h2 h3 hm hc _ T Q hQ 0)
    · exact body_pure t2 mixedT Tryd.func27 (entersOf Tryd.func27 (by kernel_rfl) rfl) 0 (f27_not m h1 hm hc _ T Q hQ 0)
  · exact h.elim
end Go.Abs

/-
A function's answer is frozen but for its last cell: what that cell reaches stays an object.
-/
namespace Go.Abs
open Go
variable {P : Program}

/-- The state behind a function whose answer (a struct) is frozen but for its last cell. -/
def lastA (Hs : Heap) (cs : List AV) (y : AV) : List AV × Heap := agc 0 [0] [.agg ((frzs Hs cs).1 ++ [y])] (frzs Hs cs).2
theorem frozL_ok {f : FuncId} {args : List AV} {Q : AOut → Heap → Prop} (h : FOK P f args [] fun out Hs => ∃ (cs : List AV) (y x : AV) (H1 : Heap), out = .ret (.agg (cs ++ [y])) ∧ lastA Hs cs y = ([x], H1) ∧ Q (.ret x) H1) : FOK P f args [] Q := by
  refine ⟨h.1, fun Mx G w cargs hs ht => (h.2 Mx G w cargs hs ht).mono fun e w' ⟨out, H', G', h1, h2, h3, h4⟩ => ?_⟩
  obtain ⟨cs, y, x, H1, rfl, hA, hQ⟩ := h4
  cases h3 with
  | ret v x' hr =>
    obtain ⟨vs, rfl, hl, hc⟩ := hr.agg_inv
    have hsz : vs.size = cs.length + 1 := by simpa using hl
    obtain ⟨k1, k2, k3, k4, k5⟩ := frzs_sound cs H' (vs.toList.take cs.length) h2 (by simp; omega) (fun i u z e1 e2 => by
      have hi := (List.getElem?_eq_some_iff.1 e2).1
      rw [List.getElem?_take_of_lt hi] at e1
      exact hc i u z (by simpa using e1) (by rw [List.getElem?_append_left hi]; exact e2))
    have hr2 : RV w' (MM Mx G' (frzs H' cs).2) (frzs H' cs).2.length G' (.agg vs) (.agg ((frzs H' cs).1 ++ [y])) := by
      refine .agg _ _ _ _ (by rw [List.length_append, k4]; simpa using hl) (fun i u z e1 e2 => ?_)
      by_cases hi : i < cs.length
      · rw [List.getElem?_append_left (by omega)] at e2
        exact (k5 i u z (by rw [List.getElem?_take_of_lt hi]; simpa using e1) e2).lift
      · rw [List.getElem?_append_right (by omega), k4] at e2
        exact k2.rv (hc i u z e1 (by rw [List.getElem?_append_right (by omega)]; exact e2))
    have htv : TV w' (MM Mx G' (frzs H' cs).2) (frzs H' cs).2.length G' #[.agg vs] [.agg ((frzs H' cs).1 ++ [y])] := by
      refine ⟨rfl, fun i u z e1 e2 => ?_⟩
      match i, e1, e2 with
      | 0, e1, e2 => cases e1; cases e2; exact hr2
    obtain ⟨G2, s1, t1, st1, _⟩ := agc_sound (pin := 0) [0] (Nat.zero_le _) k1 htv
    have hA' : agc 0 [0] [.agg ((frzs H' cs).1 ++ [y])] (frzs H' cs).2 = ([x], H1) := hA
    rw [hA'] at s1 t1 st1
    exact ⟨_, H1, G2, (h1.trans (Nat.zero_le _) k2).trans (Nat.zero_le _) st1, s1, .ret _ _ (t1.2 0 _ _ rfl rfl), hQ⟩
theorem body_last {T : Tab} (hT : TGood P T) (hm : P.follows .mixedOrders = true) {f : FuncId} {fn : Func} (hf : P.funcs[f]? = some fn) (hent : Enters P f) (N : Nat) {args : List AV} {Q : AOut → Heap → Prop}
    (h : abody P T 0 N fn args [] fun out Hs => ∃ (cs : List AV) (y x : AV) (H1 : Heap), out = .ret (.agg (cs ++ [y])) ∧ lastA Hs cs y = ([x], H1) ∧ Q (.ret x) H1) : FOK P f args [] Q :=
  frozL_ok (abody_sound hT.ok hT.ang hT.mono hm hf hent (N := N) (H := []) h)

end Go.Abs

/-
catenaryref05.Copy, with the row of its reports handed back.
-/
namespace Go.Abs
open Go Go.Proofs

def i15 (m : MsV) (d s o p : AV) : List AV := [.int .i64 m.kind, .int .i64 m.bal.view, .int .i64 m.bal.turn, .int .i64 m.slot, .int .i64 m.from_, .int .i64 m.to, .int .i64 m.index, .int .i64 m.count,
  .int .i64 m.req.client, .int .i64 m.req.stamp, .slice (bsA m.req.op), .slice (bsA m.req.sig), .int .i64 m.other.client, .int .i64 m.other.stamp, .slice (bsA m.other.op), .slice (bsA m.other.sig),
  d, s, .slice (vtCL m.cert), .slice (vtCL m.votes), o, p]
def rvR (l : List (List AV)) : AV := match l with | [] => .zslice | _ => .row 0
def rhR (l : List (List AV)) : Heap := match l with | [] => [] | _ => [.row true 70 8 l]
def g15r : FSpec := fun args K => match args with
  | [.agg cs] => ∃ m : MsV, cs = msC m ∧ OkM m ∧ K (.ret (.agg (i15 m (.slice (bsA m.data)) (.slice (bsA m.sig)) (.slice (inCL m.order)) (.slice (rqCL m.picks)) ++ [rvR (rpCL m.reports)]))) (rhR (rpCL m.reports))
  | _ => False
theorem g15r_det (args : List AV) : DetF (g15r args) := by
  unfold g15r
  repeat' (first | exact DetF.no | exact DetF.at _ _ | refine DetF.and ?_ | refine DetF.ex fun _ => ?_ | refine DetF.cond ?_ ?_ | split)

set_option maxRecDepth 100000 in
set_option maxHeartbeats 16000000 in
theorem f15r_ok (m : MsV) (hm : OkM m) (T : Tab) (Q : AOut → Heap → Prop) (hQ : Q (.ret (.agg (i15 m (.slice (bsA m.data)) (.slice (bsA m.sig)) (.slice (inCL m.order)) (.slice (rqCL m.picks)) ++ [rvR (rpCL m.reports)]))) (rhR (rpCL m.reports))) (N : Nat) (hN : m.picks.length < N) (hN2 : m.reports.length < N) :
    abody Tryd.prog (T15 T) 0 N Tryd.f15 [.agg (msC m)] [] (fun out Hs => ∃ (cs : List AV) (y x : AV) (H1 : Heap), out = .ret (.agg (cs ++ [y])) ∧ lastA Hs cs y = ([x], H1) ∧ Q (.ret x) H1) := by
  obtain ⟨o1, o2, o3, o4, o5, o6, o7, o8, o9⟩ := hm
  have hp1 := o8.1
  have hr1 := o9.1
  have l_picks : (rqCL m.picks).length = m.picks.length := by simp [rqCL]
  have l_reports : (rpCL m.reports).length = m.reports.length := by simp [rpCL]
  conv => whnf
  refine ⟨m.req, rfl, o1, ?_⟩
  conv => whnf
  refine ⟨m.other, rfl, o2, ?_⟩
  conv => whnf
  refine ⟨fits_bs (by have := o3.2; omega), ?_⟩
  conv => whnf
  refine ⟨fits_bs (by have := o4.2; omega), ?_⟩
  conv => whnf
  refine ⟨m.cert, rfl, o5, ?_⟩
  conv => whnf
  refine ⟨m.votes, rfl, o6, ?_⟩
  conv => whnf
  refine ⟨fits_in o7, ?_⟩
  conv => whnf
  refine aloop_at ?_ ?_ (aloop_inv (σ := Nat × List RqV) (fun s => (sp 0 73 [(1, .ptr 0 0), (2, .ptr 4 0), (3, rowV5 (rqCL s.2)), (42, .slice (rqCL m.picks)), (43, .int .i64 ((rqCL m.picks).length : Nat)), (44, .int .i64 (s.1 : Nat))], [.var (c15 m (.slice (rqCL m.picks)))] ++ h15 m ++ [.var zC] ++ rowH0 28 4 (rqCL s.2)))
    (fun s => s.1 ≤ m.picks.length ∧ s.2 = m.picks.take s.1) (fun s => m.picks.length - s.1) ?_ N (0, []) ⟨Nat.zero_le _, rfl⟩ (by dsimp only; omega))
  · kernel_rfl
  · kernel_rfl
  rintro ⟨i, acc⟩ ⟨i1, i2⟩ R hR
  dsimp only at i1 i2
  have hcl : (rqCL acc).length = i := by rw [i2]; simp [rqCL]; omega
  have hi1 : i < m.picks.length → IntKind.i64.wrap ((i : Int) + 1) = ((i + 1 : Nat) : Int) := fun h => by rw [IntWalk.i64_in _ (by omega)]; omega
  rcases acc with _ | ⟨x, xs⟩
  · conv => whnf
    split
    · rename_i h3; have h3 : (i : Int) < (rqCL m.picks).length := of_decide_eq_true h3
      rw [l_picks] at h3
      have h4 : i < m.picks.length := by omega
      obtain ⟨v, hv⟩ : ∃ v, m.picks[i]? = some v := ⟨m.picks[i]'h4, List.getElem?_eq_getElem h4⟩
      have hva : (rqCL m.picks)[i]? = some (rqC v) := by simp [rqCL, hv]
      have hok := o8.2 v (List.mem_of_getElem? hv)
      conv => whnf
      refine ⟨by omega, by rw [l_picks]; omega, _, hva, by kernel_rfl, ?_⟩
      conv => whnf
      refine ⟨v, rfl, hok, ?_⟩
      conv => whnf
      refine ⟨fits_at (ys' := [rqC v]) (by kernel_rfl) (fits_lt (by kernel_rfl) (by kernel_rfl) (Nat.lt_of_le_of_lt (Nat.le_of_eq hcl) (by omega))), ?_⟩
      conv => whnf
      refine R_at ?_ ?_ (hR (i + 1, [v]) ⟨h4, ?_⟩ (by dsimp only; omega))
      · rw [← hi1 h4]; kernel_rfl
      · kernel_rfl
      · dsimp only
        rw [List.take_add_one, hv, ← i2]
        rfl
    · rename_i h3; have h3 : ¬ (i : Int) < (rqCL m.picks).length := of_decide_eq_false h3
      rw [l_picks] at h3
      rw [List.take_of_length_le (by omega)] at i2
      conv => whnf
      clear hR R
      have hpk := i2
      clear i1 i2 hcl hi1
      refine aloop_at ?_ ?_ (aloop_inv (σ := Nat × List RpV) (fun s => (sp 0 73 [(1, .ptr 0 0), (2, .ptr 4 0), (6, rowV5 (rpCL s.2)), (58, .slice (rpCL m.reports)), (59, .int .i64 ((rpCL m.reports).length : Nat)), (60, .int .i64 (s.1 : Nat))], [.var (c15 m .zslice)] ++ h15 m ++ rowH0 28 4 (rqCL []) ++ [.var zC] ++ rowH0 70 8 (rpCL s.2)))
        (fun s => s.1 ≤ m.reports.length ∧ s.2 = m.reports.take s.1) (fun s => m.reports.length - s.1) ?_ N (0, []) ⟨Nat.zero_le _, rfl⟩ (by dsimp only; omega))
      · kernel_rfl
      · kernel_rfl
      rintro ⟨i, acc⟩ ⟨i1, i2⟩ R hR
      dsimp only at i1 i2
      have hcl : (rpCL acc).length = i := by rw [i2]; simp [rpCL]; omega
      have hi1 : i < m.reports.length → IntKind.i64.wrap ((i : Int) + 1) = ((i + 1 : Nat) : Int) := fun h => by rw [IntWalk.i64_in _ (by omega)]; omega
      rcases acc with _ | ⟨y, ys⟩
      · conv => whnf
        split
        · rename_i h3; have h3 : (i : Int) < (rpCL m.reports).length := of_decide_eq_true h3
          rw [l_reports] at h3
          have h4 : i < m.reports.length := by omega
          obtain ⟨v, hv⟩ : ∃ v, m.reports[i]? = some v := ⟨m.reports[i]'h4, List.getElem?_eq_getElem h4⟩
          have hva : (rpCL m.reports)[i]? = some (rpC v) := by simp [rpCL, hv]
          have hok := o9.2 v (List.mem_of_getElem? hv)
          conv => whnf
          refine ⟨by omega, by rw [l_reports]; omega, _, hva, by kernel_rfl, ?_⟩
          conv => whnf
          refine ⟨v, rfl, hok, ?_⟩
          conv => whnf
          refine ⟨fits_at (ys' := [rpC v]) (by kernel_rfl) (fits_lt (by kernel_rfl) (by kernel_rfl) (Nat.lt_of_le_of_lt (Nat.le_of_eq hcl) (by omega))), ?_⟩
          conv => whnf
          refine R_at ?_ ?_ (hR (i + 1, [v]) ⟨h4, ?_⟩ (by dsimp only; omega))
          · rw [← hi1 h4]; kernel_rfl
          · kernel_rfl
          · dsimp only
            rw [List.take_add_one, hv, ← i2]
            rfl
        · rename_i h3; have h3 : ¬ (i : Int) < (rpCL m.reports).length := of_decide_eq_false h3
          rw [l_reports] at h3
          rw [List.take_of_length_le (by omega)] at i2
          conv => whnf
          clear hR R
          have hQ' : Q (.ret (.agg (i15 m (.slice (bsA m.data)) (.slice (bsA m.sig)) (.slice (inCL m.order)) (.slice (rqCL m.picks)) ++ [rvR (rpCL m.reports)]))) (rhR (rpCL m.reports)) := hQ
          rw [← i2, ← hpk] at hQ'
          refine ⟨i15 m (.row 0) (.row 1) (.row 2) (.zslice), .zslice, .agg (i15 m (.slice (bsA m.data)) (.slice (bsA m.sig)) (.slice (inCL m.order)) (.slice (rqCL [])) ++ [rvR (rpCL [])]), rhR (rpCL []), by kernel_rfl, by kernel_rfl, ?_⟩
          exact hQ'
      · conv => whnf
        split
        · rename_i h3; have h3 : (i : Int) < (rpCL m.reports).length := of_decide_eq_true h3
          rw [l_reports] at h3
          have h4 : i < m.reports.length := by omega
          obtain ⟨v, hv⟩ : ∃ v, m.reports[i]? = some v := ⟨m.reports[i]'h4, List.getElem?_eq_getElem h4⟩
          have hva : (rpCL m.reports)[i]? = some (rpC v) := by simp [rpCL, hv]
          have hok := o9.2 v (List.mem_of_getElem? hv)
          conv => whnf
          refine ⟨by omega, by rw [l_reports]; omega, _, hva, by kernel_rfl, ?_⟩
          conv => whnf
          refine ⟨v, rfl, hok, ?_⟩
          conv => whnf
          refine ⟨fits_at (ys' := [rpC v]) (by kernel_rfl) (fits_lt (by kernel_rfl) (by kernel_rfl) (Nat.lt_of_le_of_lt (Nat.le_of_eq hcl) (by omega))), ?_⟩
          conv => whnf
          refine R_at ?_ ?_ (hR (i + 1, ((y :: ys) ++ [v])) ⟨h4, ?_⟩ (by dsimp only; omega))
          · rw [← hi1 h4]; kernel_rfl
          · show _ = _ ++ rowH0 70 8 (rpCL ((y :: ys) ++ [v]))
            rw [show rpCL ((y :: ys) ++ [v]) = rpCL (y :: ys) ++ [rpC v] by simp [rpCL]]
            kernel_rfl
          · dsimp only
            rw [List.take_add_one, hv, ← i2]
            rfl
        · rename_i h3; have h3 : ¬ (i : Int) < (rpCL m.reports).length := of_decide_eq_false h3
          rw [l_reports] at h3
          rw [List.take_of_length_le (by omega)] at i2
          conv => whnf
          clear hR R
          have hQ' : Q (.ret (.agg (i15 m (.slice (bsA m.data)) (.slice (bsA m.sig)) (.slice (inCL m.order)) (.slice (rqCL m.picks)) ++ [rvR (rpCL m.reports)]))) (rhR (rpCL m.reports)) := hQ
          rw [← i2, ← hpk] at hQ'
          refine ⟨i15 m (.row 0) (.row 1) (.row 2) (.zslice), .row 3, .agg (i15 m (.slice (bsA m.data)) (.slice (bsA m.sig)) (.slice (inCL m.order)) (.slice (rqCL [])) ++ [rvR (rpCL (y :: ys))]), rhR (rpCL (y :: ys)), by kernel_rfl, by kernel_rfl, ?_⟩
          exact hQ'
  · conv => whnf
    split
    · rename_i h3; have h3 : (i : Int) < (rqCL m.picks).length := of_decide_eq_true h3
      rw [l_picks] at h3
      have h4 : i < m.picks.length := by omega
      obtain ⟨v, hv⟩ : ∃ v, m.picks[i]? = some v := ⟨m.picks[i]'h4, List.getElem?_eq_getElem h4⟩
      have hva : (rqCL m.picks)[i]? = some (rqC v) := by simp [rqCL, hv]
      have hok := o8.2 v (List.mem_of_getElem? hv)
      conv => whnf
      refine ⟨by omega, by rw [l_picks]; omega, _, hva, by kernel_rfl, ?_⟩
      conv => whnf
      refine ⟨v, rfl, hok, ?_⟩
      conv => whnf
      refine ⟨fits_at (ys' := [rqC v]) (by kernel_rfl) (fits_lt (by kernel_rfl) (by kernel_rfl) (Nat.lt_of_le_of_lt (Nat.le_of_eq hcl) (by omega))), ?_⟩
      conv => whnf
      refine R_at ?_ ?_ (hR (i + 1, ((x :: xs) ++ [v])) ⟨h4, ?_⟩ (by dsimp only; omega))
      · rw [← hi1 h4]; kernel_rfl
      · show _ = _ ++ rowH0 28 4 (rqCL ((x :: xs) ++ [v]))
        rw [show rqCL ((x :: xs) ++ [v]) = rqCL (x :: xs) ++ [rqC v] by simp [rqCL]]
        kernel_rfl
      · dsimp only
        rw [List.take_add_one, hv, ← i2]
        rfl
    · rename_i h3; have h3 : ¬ (i : Int) < (rqCL m.picks).length := of_decide_eq_false h3
      rw [l_picks] at h3
      rw [List.take_of_length_le (by omega)] at i2
      conv => whnf
      clear hR R
      have hpk := i2
      clear i1 i2 hcl hi1
      refine aloop_at ?_ ?_ (aloop_inv (σ := Nat × List RpV) (fun s => (sp 0 73 [(1, .ptr 0 0), (2, .ptr 5 0), (6, rowV6 (rpCL s.2)), (58, .slice (rpCL m.reports)), (59, .int .i64 ((rpCL m.reports).length : Nat)), (60, .int .i64 (s.1 : Nat))], [.var (c15 m (.row 4))] ++ h15 m ++ rowH0 28 4 (rqCL (x :: xs)) ++ [.var zC] ++ rowH0 70 8 (rpCL s.2)))
        (fun s => s.1 ≤ m.reports.length ∧ s.2 = m.reports.take s.1) (fun s => m.reports.length - s.1) ?_ N (0, []) ⟨Nat.zero_le _, rfl⟩ (by dsimp only; omega))
      · kernel_rfl
      · kernel_rfl
      rintro ⟨i, acc⟩ ⟨i1, i2⟩ R hR
      dsimp only at i1 i2
      have hcl : (rpCL acc).length = i := by rw [i2]; simp [rpCL]; omega
      have hi1 : i < m.reports.length → IntKind.i64.wrap ((i : Int) + 1) = ((i + 1 : Nat) : Int) := fun h => by rw [IntWalk.i64_in _ (by omega)]; omega
      rcases acc with _ | ⟨y, ys⟩
      · conv => whnf
        split
        · rename_i h3; have h3 : (i : Int) < (rpCL m.reports).length := of_decide_eq_true h3
          rw [l_reports] at h3
          have h4 : i < m.reports.length := by omega
          obtain ⟨v, hv⟩ : ∃ v, m.reports[i]? = some v := ⟨m.reports[i]'h4, List.getElem?_eq_getElem h4⟩
          have hva : (rpCL m.reports)[i]? = some (rpC v) := by simp [rpCL, hv]
          have hok := o9.2 v (List.mem_of_getElem? hv)
          conv => whnf
          refine ⟨by omega, by rw [l_reports]; omega, _, hva, by kernel_rfl, ?_⟩
          conv => whnf
          refine ⟨v, rfl, hok, ?_⟩
          conv => whnf
          refine ⟨fits_at (ys' := [rpC v]) (by kernel_rfl) (fits_lt (by kernel_rfl) (by kernel_rfl) (Nat.lt_of_le_of_lt (Nat.le_of_eq hcl) (by omega))), ?_⟩
          conv => whnf
          refine R_at ?_ ?_ (hR (i + 1, [v]) ⟨h4, ?_⟩ (by dsimp only; omega))
          · rw [← hi1 h4]; kernel_rfl
          · kernel_rfl
          · dsimp only
            rw [List.take_add_one, hv, ← i2]
            rfl
        · rename_i h3; have h3 : ¬ (i : Int) < (rpCL m.reports).length := of_decide_eq_false h3
          rw [l_reports] at h3
          rw [List.take_of_length_le (by omega)] at i2
          conv => whnf
          clear hR R
          have hQ' : Q (.ret (.agg (i15 m (.slice (bsA m.data)) (.slice (bsA m.sig)) (.slice (inCL m.order)) (.slice (rqCL m.picks)) ++ [rvR (rpCL m.reports)]))) (rhR (rpCL m.reports)) := hQ
          rw [← i2, ← hpk] at hQ'
          refine ⟨i15 m (.row 0) (.row 1) (.row 2) (.row 3), .zslice, .agg (i15 m (.slice (bsA m.data)) (.slice (bsA m.sig)) (.slice (inCL m.order)) (.slice (rqCL (x :: xs))) ++ [rvR (rpCL [])]), rhR (rpCL []), by kernel_rfl, by kernel_rfl, ?_⟩
          exact hQ'
      · conv => whnf
        split
        · rename_i h3; have h3 : (i : Int) < (rpCL m.reports).length := of_decide_eq_true h3
          rw [l_reports] at h3
          have h4 : i < m.reports.length := by omega
          obtain ⟨v, hv⟩ : ∃ v, m.reports[i]? = some v := ⟨m.reports[i]'h4, List.getElem?_eq_getElem h4⟩
          have hva : (rpCL m.reports)[i]? = some (rpC v) := by simp [rpCL, hv]
          have hok := o9.2 v (List.mem_of_getElem? hv)
          conv => whnf
          refine ⟨by omega, by rw [l_reports]; omega, _, hva, by kernel_rfl, ?_⟩
          conv => whnf
          refine ⟨v, rfl, hok, ?_⟩
          conv => whnf
          refine ⟨fits_at (ys' := [rpC v]) (by kernel_rfl) (fits_lt (by kernel_rfl) (by kernel_rfl) (Nat.lt_of_le_of_lt (Nat.le_of_eq hcl) (by omega))), ?_⟩
          conv => whnf
          refine R_at ?_ ?_ (hR (i + 1, ((y :: ys) ++ [v])) ⟨h4, ?_⟩ (by dsimp only; omega))
          · rw [← hi1 h4]; kernel_rfl
          · show _ = _ ++ rowH0 70 8 (rpCL ((y :: ys) ++ [v]))
            rw [show rpCL ((y :: ys) ++ [v]) = rpCL (y :: ys) ++ [rpC v] by simp [rpCL]]
            kernel_rfl
          · dsimp only
            rw [List.take_add_one, hv, ← i2]
            rfl
        · rename_i h3; have h3 : ¬ (i : Int) < (rpCL m.reports).length := of_decide_eq_false h3
          rw [l_reports] at h3
          rw [List.take_of_length_le (by omega)] at i2
          conv => whnf
          clear hR R
          have hQ' : Q (.ret (.agg (i15 m (.slice (bsA m.data)) (.slice (bsA m.sig)) (.slice (inCL m.order)) (.slice (rqCL m.picks)) ++ [rvR (rpCL m.reports)]))) (rhR (rpCL m.reports)) := hQ
          rw [← i2, ← hpk] at hQ'
          refine ⟨i15 m (.row 0) (.row 1) (.row 2) (.row 3), .row 4, .agg (i15 m (.slice (bsA m.data)) (.slice (bsA m.sig)) (.slice (inCL m.order)) (.slice (rqCL (x :: xs))) ++ [rvR (rpCL (y :: ys))]), rhR (rpCL (y :: ys)), by kernel_rfl, by kernel_rfl, ?_⟩
          exact hQ'


set_option maxRecDepth 100000 in
theorem s15r {T : Tab} (hT : TGood Tryd.prog T) : SGood Tryd.prog 15 (freshT g15r) := freshT_good g15r_det fun args Q h => by
  unfold g15r at h
  split at h
  · obtain ⟨m, rfl, hm, hQ⟩ := h
    have t1 := ext_good hT (s23 hT)
    have t2 := ext_good t1 (s43 t1)
    exact body_last (ext_good t2 (s44 t2)) mixedT Tryd.func15 (entersOf Tryd.func15 (by kernel_rfl) rfl) (m.picks.length + m.reports.length + 1) (f15r_ok m hm T Q hQ _ (by omega) (by omega))
  · exact h.elim
end Go.Abs

/-
catenaryref06.bare, with the row of its reports handed back.
-/
namespace Go.Abs
open Go Go.Proofs

/-- A message's cells, its reports' row apart. -/
def iM (m : MsV) : List AV := i15 m (.slice (bsA m.data)) (.slice (bsA m.sig)) (.slice (inCL m.order)) (.slice (rqCL m.picks)) ++ [rvR (rpCL m.reports)]
def g73 : FSpec := fun args K => match args with
  | [.agg cs] => ∃ m : MsV, cs = msC m ∧ OkM m ∧ K (.ret (.agg (iM (bareM m)))) (rhR (rpCL (bareM m).reports))
  | _ => False
theorem g73_det (args : List AV) : DetF (g73 args) := by
  unfold g73
  repeat' (first | exact DetF.no | exact DetF.at _ _ | refine DetF.and ?_ | refine DetF.ex fun _ => ?_ | refine DetF.cond ?_ ?_ | split)

set_option maxRecDepth 100000 in
set_option maxHeartbeats 8000000 in
theorem f73_one (m : MsV) (r : RpV) (h1 : oneM m = true) (hk : m.kind = 8) (hr : m.reports = [r]) (hm : OkM m) (T : Tab) (Q : AOut → Heap → Prop) (hQ : Q (.ret (.agg (iM (bareM m)))) (rhR (rpCL (bareM m).reports))) (N : Nat) :
    abody Tryd.prog (ext (ext T 15 (freshT g15r)) 74 (flatT g74)) 0 N Tryd.f73 [.agg (msC m)] [] (fun out Hs => ∃ (cs : List AV) (y x : AV) (H1 : Heap), out = .ret (.agg (cs ++ [y])) ∧ lastA Hs cs y = ([x], H1) ∧ Q (.ret x) H1) := by
  have hbe : bareM m = { m with reports := [{ r with sig := [] }] } := by unfold bareM withSig; rw [h1, hr]; rfl
  rw [hbe] at hQ
  clear hbe
  obtain ⟨kind, bal, slot, from_, to, index, count, req, other, data, sig, cert, votes, order, picks, reports⟩ := m
  dsimp only at hk hr
  subst hk; subst hr
  conv => whnf
  refine ⟨⟨8, bal, slot, from_, to, index, count, req, other, data, sig, cert, votes, order, picks, [r]⟩, rfl, hm, ?_⟩
  conv => whnf
  refine ⟨⟨8, bal, slot, from_, to, index, count, req, other, data, sig, cert, votes, order, picks, [r]⟩, by kernel_rfl, ?_⟩
  rw [h1]
  conv => whnf
  refine ⟨by kernel_rfl, by decide, by show (0 : Int) < 1; decide, ?_⟩
  conv => whnf
  refine ⟨rpC r, by kernel_rfl, of_decide_eq_true (by kernel_rfl), ?_⟩
  conv => whnf
  refine ⟨i15 ⟨8, bal, slot, from_, to, index, count, req, other, data, sig, cert, votes, order, picks, [r]⟩ (.slice (bsA data)) (.slice (bsA sig)) (.slice (inCL order)) (.slice (rqCL picks)), .row 0, .agg (iM ⟨8, bal, slot, from_, to, index, count, req, other, data, sig, cert, votes, order, picks, [{ r with sig := [] }]⟩), rhR (rpCL [{ r with sig := [] }]), by kernel_rfl, by kernel_rfl, ?_⟩
  refine Eq.mp ?_ hQ
  kernel_rfl

set_option maxRecDepth 100000 in
set_option maxHeartbeats 8000000 in
theorem f73_not (m : MsV) (h1 : oneM m = false) (hm : OkM m) (T : Tab) (Q : AOut → Heap → Prop) (hQ : Q (.ret (.agg (iM (bareM m)))) (rhR (rpCL (bareM m).reports))) (N : Nat) :
    abody Tryd.prog (ext (ext T 15 (freshT g15r)) 74 (flatT g74)) 0 N Tryd.f73 [.agg (msC m)] [] (fun out Hs => ∃ (cs : List AV) (y x : AV) (H1 : Heap), out = .ret (.agg (cs ++ [y])) ∧ lastA Hs cs y = ([x], H1) ∧ Q (.ret x) H1) := by
  have hbe : bareM m = { m with sig := [] } := by unfold bareM withSig; rw [h1]; rfl
  rw [hbe] at hQ
  clear hbe
  obtain ⟨kind, bal, slot, from_, to, index, count, req, other, data, sig, cert, votes, order, picks, reports⟩ := m
  rcases reports with _ | ⟨r0, rs⟩
  · conv => whnf
    refine ⟨⟨kind, bal, slot, from_, to, index, count, req, other, data, sig, cert, votes, order, picks, []⟩, rfl, hm, ?_⟩
    conv => whnf
    refine ⟨⟨kind, bal, slot, from_, to, index, count, req, other, data, sig, cert, votes, order, picks, []⟩, by kernel_rfl, ?_⟩
    rw [h1]
    conv => whnf
    refine ⟨i15 ⟨kind, bal, slot, from_, to, index, count, req, other, data, sig, cert, votes, order, picks, []⟩ (.slice (bsA data)) .zslice (.slice (inCL order)) (.slice (rqCL picks)), .zslice, .agg (iM ⟨kind, bal, slot, from_, to, index, count, req, other, data, [], cert, votes, order, picks, []⟩), rhR (rpCL []), by kernel_rfl, by kernel_rfl, ?_⟩
    refine Eq.mp ?_ hQ
    kernel_rfl
  · conv => whnf
    refine ⟨⟨kind, bal, slot, from_, to, index, count, req, other, data, sig, cert, votes, order, picks, (r0 :: rs)⟩, rfl, hm, ?_⟩
    conv => whnf
    refine ⟨⟨kind, bal, slot, from_, to, index, count, req, other, data, sig, cert, votes, order, picks, (r0 :: rs)⟩, by kernel_rfl, ?_⟩
    rw [h1]
    conv => whnf
    refine ⟨i15 ⟨kind, bal, slot, from_, to, index, count, req, other, data, sig, cert, votes, order, picks, (r0 :: rs)⟩ (.slice (bsA data)) .zslice (.slice (inCL order)) (.slice (rqCL picks)), .row 0, .agg (iM ⟨kind, bal, slot, from_, to, index, count, req, other, data, [], cert, votes, order, picks, (r0 :: rs)⟩), rhR (rpCL (r0 :: rs)), by kernel_rfl, by kernel_rfl, ?_⟩
    refine Eq.mp ?_ hQ
    kernel_rfl


set_option maxRecDepth 100000 in
theorem s73 {T : Tab} (hT : TGood Tryd.prog T) : SGood Tryd.prog 73 (freshT g73) := freshT_good g73_det fun args Q h => by
  unfold g73 at h
  split at h
  · obtain ⟨m, rfl, hm, hQ⟩ := h
    have t0 := ext_good hT (s15r hT)
    have t1 := ext_good t0 (s74 t0)
    rcases one_cases m with ⟨r, h1, h2, h3⟩ | h1
    · exact body_last t1 mixedT Tryd.func73 (entersOf Tryd.func73 (by kernel_rfl) rfl) 0 (f73_one m r h1 h2 h3 hm T Q hQ 0)
    · exact body_last t1 mixedT Tryd.func73 (entersOf Tryd.func73 (by kernel_rfl) rfl) 0 (f73_not m h1 hm T Q hQ 0)
  · exact h.elim
end Go.Abs

