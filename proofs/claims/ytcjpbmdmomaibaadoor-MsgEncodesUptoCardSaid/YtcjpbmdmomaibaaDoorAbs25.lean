/-
MsgEncodes: what its code comes to.
-/
import Derived.Test.YtcjpbmdmomaibaaDoorAbs20
import Derived.Test.YtcjpbmdmomaibaaDoorAbs24
namespace Go.Abs
open Go Go.Proofs

def g4 : GSpec := fun args K => match args with
  | [.agg cs] => ∃ m : MsV, cs = msC m ∧ OkM m ∧ cM m ≤ 1073741824 ∧ K (.ret (.bool true))
  | _ => False
theorem g4_det (args : List AV) : Det (g4 args) := by
  unfold g4
  repeat' (first | exact Det.no | exact Det.at _ | refine Det.and ?_ | refine Det.ex fun _ => ?_ | refine Det.cond ?_ ?_ | split)
def T4 (T : Tab) : Tab := ext (ext (ext (ext (ext (ext T 14 (flatT g14)) 15 (pureT g15)) 16 (freshT g16)) 17 (pureT g17)) 18 (flatT g18)) 19 (flatT g19)
theorem ne_self51 (n : Int) : (n != n) = false := by simp

set_option maxRecDepth 100000 in
set_option maxHeartbeats 8000000 in
theorem f4_ok (m : MsV) (hm : OkM m) (hc : cM m ≤ 1073741824) (T : Tab) (Q : AOut → Prop) (hQ : Q (.ret (.bool true))) (N : Nat) (hN : 1048576 < N) :
    abody Tryd.prog (T4 T) 0 N Tryd.f4 [.agg (msC m)] [] (fun out Hs => Q (frzO Hs out)) := by
  conv => whnf
  refine ⟨m, rfl, hm, ?_⟩
  conv => whnf
  refine ⟨m, rfl, hm, hc, ?_⟩
  unfold encK
  have heo := encOE_eq m
  rcases encE_cases m with he | he | he
  rotate_left
  · rw [he] at heo
    rw [he]
    conv => whnf
    refine ⟨m, rfl, hm, hc, ?_⟩
    rw [heo]
    conv => whnf
    refine ⟨[], [], rfl, rfl, okB_nil, okB_nil, ?_⟩
    conv => whnf
    refine aloop_at ?_ ?_ (aloop_inv (σ := Unit) (fun _ => ((sp 0 47 [(1, .ptr 0 0), (3, .ptr 1 0), (4, .zslice), (33, .int .i64 0), (34, .int .i64 0)]), [.var (msC m), .var (msC m)]))
      (fun _ => True) (fun _ => 0) ?_ N () trivial (by omega))
    · kernel_rfl
    · kernel_rfl
    rintro _ _ R _
    conv => whnf
    refine ⟨m, rfl, rfl, hm, ?_⟩
    conv => whnf
    refine Eq.mp ?_ hQ
    kernel_rfl
  · rw [he] at heo
    rw [he]
    conv => whnf
    refine ⟨m, rfl, hm, hc, ?_⟩
    rw [heo]
    conv => whnf
    refine ⟨[], [], rfl, rfl, okB_nil, okB_nil, ?_⟩
    conv => whnf
    refine aloop_at ?_ ?_ (aloop_inv (σ := Unit) (fun _ => ((sp 0 47 [(1, .ptr 0 0), (3, .ptr 1 0), (4, .zslice), (33, .int .i64 0), (34, .int .i64 0)]), [.var (msC m), .var (msC m)]))
      (fun _ => True) (fun _ => 0) ?_ N () trivial (by omega))
    · kernel_rfl
    · kernel_rfl
    rintro _ _ R _
    conv => whnf
    refine ⟨m, rfl, rfl, hm, ?_⟩
    conv => whnf
    refine Eq.mp ?_ hQ
    kernel_rfl
  obtain ⟨k1, k2, k3, k4⟩ := encE_ok he
  have hos := oS_eq m he
  rw [k3] at hos
  rw [he] at heo
  have hb := encS_okB hm 15
  rw [k3] at hb
  rw [he, k3]
  conv => whnf
  refine ⟨m, rfl, hm, hc, ?_⟩
  rw [heo, hos]
  conv => whnf
  refine ⟨eMsg m, eMsg m, take_all _, rfl, hb, hb, ?_⟩
  rw [show decide (eMsg m = eMsg m) = true by simp]
  conv => whnf
  have hd : ((List.take (eMsg m).length (List.drop 0 (bsA (eMsg m)))).length : Int) = (eMsg m).length := by rw [take_all, bsA_length]
  refine aloop_at ?_ ?_ (aloop_inv (σ := Nat × List Int) (fun s => ((sp 0 47 [(1, .ptr 0 0), (3, .ptr 1 0), (4, .srow 2 0 (eMsg m).length), (33, .int .i64 ((eMsg m).length : Nat)), (34, .int .i64 (s.1 : Nat))]), [.var (msC m), .var (msC m), .row true 5 1 (bsA s.2)]))
    (fun s => s.1 ≤ (eMsg m).length ∧ s.2.length = (eMsg m).length) (fun s => (eMsg m).length - s.1) ?_ N (0, eMsg m) ⟨Nat.zero_le _, rfl⟩ (by dsimp only; omega))
  · rw [hd]; kernel_rfl
  · kernel_rfl
  rintro ⟨i, l⟩ ⟨i1, i2⟩ R hR
  dsimp only at i1 i2
  conv => whnf
  split
  rotate_left
  · conv => whnf
    refine ⟨m, rfl, rfl, hm, ?_⟩
    conv => whnf
    refine Eq.mp ?_ hQ
    kernel_rfl
  rename_i h2; have h2 : (i : Int) < (eMsg m).length := of_decide_eq_true h2
  have hi1 : IntKind.i64.wrap ((i : Int) + 1) = ((i + 1 : Nat) : Int) := by rw [IntWalk.i64_in _ (by omega)]; omega
  obtain ⟨x, hx⟩ : ∃ x, l[i]? = some x := ⟨l[i]'(by omega), List.getElem?_eq_getElem (by omega)⟩
  conv => whnf
  have hg : (bsA l)[0 + ((i : Nat) : Int).toNat]? = some [.int .u8 x] := by simp [bsA, hx]
  refine ⟨by kernel_rfl, by dsimp only; omega, by dsimp only; omega, ?_⟩
  conv => whnf
  refine ⟨_, _, _, hg, rfl, ?_⟩
  conv => whnf
  refine ⟨by kernel_rfl, by dsimp only; omega, by dsimp only; omega, ?_⟩
  conv => whnf
  refine ⟨_, hg, Nat.le_of_ble_eq_true (by kernel_rfl), ?_⟩
  conv => whnf
  refine R_at ?_ ?_ (hR (i + 1, l.set i (bits .xor .u8 x 255)) ⟨by omega, by simpa using i2⟩ (by dsimp only; omega))
  · rw [← hi1]; kernel_rfl
  · show _ = [_, _, HO.row true 5 1 (bsA (l.set i (bits .xor .u8 x 255)))]
    rw [show bsA (l.set i (bits .xor .u8 x 255)) = (bsA l).set (0 + ((i : Nat) : Int).toNat) [.int .u8 (bits .xor .u8 x 255)] by simp [bsA, List.map_set]]
    kernel_rfl

set_option maxRecDepth 100000 in
theorem s4 {T : Tab} (hT : TGood Tryd.prog T) : SGood Tryd.prog 4 (pureT g4) := pureT_good g4_det fun args Q h => by
  unfold g4 at h
  split at h
  · obtain ⟨m, rfl, hm, hc, hQ⟩ := h
    have t1 := ext_good hT (s14 hT)
    have t2 := ext_good t1 (s15 t1)
    have t3 := ext_good t2 (s16 t2)
    have t4 := ext_good t3 (s17 t3)
    have t5 := ext_good t4 (s18 t4)
    exact body_pure (ext_good t5 (s19 t5)) mixedT Tryd.func4 (entersOf Tryd.func4 (by kernel_rfl) rfl) 1048577 (f4_ok m hm hc T Q hQ 1048577 (by omega))
  · exact h.elim
end Go.Abs

