/-
MsgBack: what its code comes to.
-/
import Derived.Test.YtcjpbmdmomaibaaDoorAbs19
import Derived.Test.YtcjpbmdmomaibaaDoorAbs12
import Derived.Test.YtcjpbmdmomaibaaDoorAbs17
namespace Go.Abs
open Go Go.Proofs

theorem encE_cases (m : MsV) : encE m = 0 ∨ encE m = 51 ∨ encE m = 53 := by
  unfold encE
  repeat' split
  all_goals simp
theorem encS_okB {m : MsV} (hm : OkM m) : ∀ i, okB (encS m i).1
  | 0 => wNum_b m.kind _ okB_nil
  | i + 1 => by
    unfold encS
    cases hasF m.kind i with
    | true => exact wField_b hm i _ (encS_okB hm i)
    | false => exact encS_okB hm i
theorem take_all (l : List Int) : List.take l.length (List.drop 0 (bsA l)) = bsA l := by
  rw [List.drop_zero, List.take_of_length_le (by simp)]

def g6 : GSpec := fun args K => match args with
  | [.agg cs] => ∃ m : MsV, cs = msC m ∧ OkM m ∧ cM m ≤ 1073741824 ∧ K (.ret (.bool true))
  | _ => False
theorem g6_det (args : List AV) : Det (g6 args) := by
  unfold g6
  repeat' (first | exact Det.no | exact Det.at _ | refine Det.and ?_ | refine Det.ex fun _ => ?_ | refine Det.cond ?_ ?_ | split)
def T6 (T : Tab) : Tab := ext (ext (ext (ext (ext T 14 (flatT g14)) 15 (pureT g15)) 16 (freshT g16)) 19 (flatT g19)) 20 (pureT g20)

set_option maxRecDepth 100000 in
set_option maxHeartbeats 8000000 in
theorem f6_ok (m : MsV) (hm : OkM m) (hc : cM m ≤ 1073741824) (T : Tab) (Q : AOut → Prop) (hQ : Q (.ret (.bool true))) (N : Nat) :
    abody Tryd.prog (T6 T) 0 N Tryd.f6 [.agg (msC m)] [] (fun out Hs => Q (frzO Hs out)) := by
  conv => whnf
  refine ⟨m, rfl, hm, ?_⟩
  conv => whnf
  refine ⟨m, rfl, hm, hc, ?_⟩
  unfold encK
  rcases encE_cases m with he | he | he
  · obtain ⟨k1, k2, k3, k4⟩ := encE_ok he
    have hb := encS_okB hm 15
    rw [k3] at hb
    rw [he, k3]
    conv => whnf
    refine ⟨eMsg m, take_all _, ⟨hb, by omega⟩, ?_⟩
    rw [decM_enc k1 k2 k4]
    conv => whnf
    refine ⟨m, rfl, rfl, hm, ?_⟩
    conv => whnf
    refine Eq.mp ?_ hQ
    kernel_rfl
  · rw [he]
    conv => whnf
    refine Eq.mp ?_ hQ
    kernel_rfl
  · rw [he]
    conv => whnf
    refine Eq.mp ?_ hQ
    kernel_rfl

set_option maxRecDepth 100000 in
theorem s6 {T : Tab} (hT : TGood Tryd.prog T) : SGood Tryd.prog 6 (pureT g6) := pureT_good g6_det fun args Q h => by
  unfold g6 at h
  split at h
  · obtain ⟨m, rfl, hm, hc, hQ⟩ := h
    have t1 := ext_good hT (s14 hT)
    have t2 := ext_good t1 (s15 t1)
    have t3 := ext_good t2 (s16 t2)
    have t4 := ext_good t3 (s19 t3)
    exact body_pure (ext_good t4 (s20 t4)) mixedT Tryd.func6 (entersOf Tryd.func6 (by kernel_rfl) rfl) 0 (f6_ok m hm hc T Q hQ 0)
  · exact h.elim
end Go.Abs

/-
MsgOnly: what its code comes to.
-/
namespace Go.Abs
open Go Go.Proofs

def g7 : GSpec := fun args K => match args with
  | [.slice es] => ∃ l : List Int, es = bsA l ∧ OkL l ∧ K (.ret (.bool true))
  | _ => False
theorem g7_det (args : List AV) : Det (g7 args) := by
  unfold g7
  repeat' (first | exact Det.no | exact Det.at _ | refine Det.and ?_ | refine Det.ex fun _ => ?_ | refine Det.cond ?_ ?_ | split)
def T7 (T : Tab) : Tab := ext (ext (ext (ext (ext T 14 (flatT g14)) 16 (freshT g16)) 18 (flatT g18)) 19 (flatT g19)) 20 (pureT g20)

set_option maxRecDepth 100000 in
set_option maxHeartbeats 8000000 in
theorem f7_ok (l : List Int) (hl : OkL l) (T : Tab) (Q : AOut → Prop) (hQ : Q (.ret (.bool true))) (N : Nat) :
    abody Tryd.prog (T7 T) 0 N Tryd.f7 [.slice (bsA l)] [] (fun out Hs => Q (frzO Hs out)) := by
  conv => whnf
  refine ⟨fits_bs (by have := hl.len; omega), ?_⟩
  conv => whnf
  refine ⟨l, rfl, hl, ?_⟩
  rcases decM_of hl.b with ⟨_, h⟩ | ⟨_, h⟩ | ⟨m, h, k1, k2, k3, k4⟩
  · rw [h]
    conv => whnf
    refine ⟨zM, by kernel_rfl, by kernel_rfl, okM_z, ?_⟩
    conv => whnf
    refine Eq.mp ?_ hQ
    kernel_rfl
  · rw [h]
    conv => whnf
    refine ⟨zM, by kernel_rfl, by kernel_rfl, okM_z, ?_⟩
    conv => whnf
    refine Eq.mp ?_ hQ
    kernel_rfl
  · rw [h]
    have hb := hl.b
    have hc := cM_of k1
    subst k3
    obtain ⟨e1, e2⟩ := okMsg_enc k1 k2 k4
    conv => whnf
    refine ⟨m, rfl, okM_of k1 hb, by omega, ?_⟩
    unfold encK
    rw [e1, e2]
    conv => whnf
    refine ⟨eMsg m, eMsg m, take_all _, rfl, hb, hb, ?_⟩
    rw [show decide (eMsg m = eMsg m) = true by simp]
    conv => whnf
    refine Eq.mp ?_ hQ
    kernel_rfl

set_option maxRecDepth 100000 in
theorem s7 {T : Tab} (hT : TGood Tryd.prog T) : SGood Tryd.prog 7 (pureT g7) := pureT_good g7_det fun args Q h => by
  unfold g7 at h
  split at h
  · obtain ⟨l, rfl, hl, hQ⟩ := h
    have t1 := ext_good hT (s14 hT)
    have t2 := ext_good t1 (s16 t1)
    have t3 := ext_good t2 (s18 t2)
    have t4 := ext_good t3 (s19 t3)
    exact body_pure (ext_good t4 (s20 t4)) mixedT Tryd.func7 (entersOf Tryd.func7 (by kernel_rfl) rfl) 0 (f7_ok l hl T Q hQ 0)
  · exact h.elim
end Go.Abs

/-
MsgTrails: what its code comes to.
-/
namespace Go.Abs
open Go Go.Proofs

def g8 : GSpec := fun args K => match args with
  | [.agg cs, .int .i64 _, .slice es] => ∃ (m : MsV) (l : List Int), cs = msC m ∧ OkM m ∧ cM m ≤ 1073741824 ∧ es = bsA l ∧ okB l ∧ l.length ≤ 1048576 ∧ K (.ret (.bool true))
  | _ => False
theorem g8_det (args : List AV) : Det (g8 args) := by
  unfold g8
  repeat' (first | exact Det.no | exact Det.at _ | refine Det.and ?_ | refine Det.ex fun _ => ?_ | refine Det.cond ?_ ?_ | split)
def T8 (T : Tab) : Tab := ext (ext (ext (ext T 14 (flatT g14)) 15 (pureT g15)) 16 (freshT g16)) 20 (pureT g20)

set_option maxRecDepth 100000 in
set_option maxHeartbeats 8000000 in
theorem f8_ok (m : MsV) (hm : OkM m) (hc : cM m ≤ 1073741824) (cut : Int) (l : List Int) (hl : okB l) (hll : l.length ≤ 1048576) (T : Tab) (Q : AOut → Prop) (hQ : Q (.ret (.bool true))) (N : Nat) :
    abody Tryd.prog (T8 T) 0 N Tryd.f8 [.agg (msC m), .int .i64 cut, .slice (bsA l)] [] (fun out Hs => Q (frzO Hs out)) := by
  conv => whnf
  refine ⟨m, rfl, hm, ?_⟩
  conv => whnf
  refine ⟨m, rfl, hm, hc, ?_⟩
  unfold encK
  rcases encE_cases m with he | he | he
  rotate_left
  · rw [he]
    conv => whnf
    refine Eq.mp ?_ hQ
    kernel_rfl
  · rw [he]
    conv => whnf
    refine Eq.mp ?_ hQ
    kernel_rfl
  obtain ⟨k1, k2, k3, k4⟩ := encE_ok he
  have hb := encS_okB hm 15
  rw [k3] at hb
  rw [he, k3]
  conv => whnf
  have fall : FitsA (List.take (eMsg m).length (List.drop 0 (bsA (eMsg m)))) 1 1 0 := by
    rw [take_all]; exact fits_bs (by omega)
  have hd : ((List.take (eMsg m).length (List.drop 0 (bsA (eMsg m)))).length : Int) = (eMsg m).length := by rw [take_all, bsA_length]
  have hcut : ∀ n, List.take n (List.drop 0 (bsA (eMsg m))) = bsA ((eMsg m).take n) := fun n => by simp [bsA, List.map_take]
  by_cases c1 : cut ≥ 0
  · by_cases c2 : cut < (eMsg m).length
    · rw [decide_eq_true c1]
      conv => whnf
      rw [hd, decide_eq_true c2]
      conv => whnf
      refine ⟨rfl, ⟨c1, by omega⟩, ?_⟩
      conv => whnf
      refine ⟨by
        show FitsA (List.take cut.toNat (List.drop 0 (bsA (eMsg m)))) 1 1 0
        rw [hcut]
        exact fits_bs (by rw [List.length_take]; omega), ?_⟩
      conv => whnf
      refine ⟨(eMsg m).take cut.toNat, hcut _, ⟨fun b hbb => hb b (List.mem_of_mem_take hbb), by rw [List.length_take]; omega⟩, ?_⟩
      rw [decM_cut hb k1 k2 k4 (by omega)]
      conv => whnf
      rcases l with _ | ⟨b, q⟩
      · conv => whnf
        refine Eq.mp ?_ hQ
        kernel_rfl
      · conv => whnf
        refine ⟨fall, ?_⟩
        conv => whnf
        refine ⟨fits_at (ys' := bsA (b :: q)) (by kernel_rfl) (by
          show FitsA (bsA (b :: q)) 1 1 (List.take (eMsg m).length (List.drop 0 (bsA (eMsg m)))).length
          rw [take_all, bsA_length]
          exact fits_bs (by omega)), ?_⟩
        conv => whnf
        refine ⟨eMsg m ++ b :: q, by
          show List.take (eMsg m).length (List.drop 0 (bsA (eMsg m))) ++ bsA (b :: q) = _
          rw [take_all, bsA_append], ⟨okB_app hb hl, by rw [List.length_append]; omega⟩, ?_⟩
        rcases decM_more k1 (q := b :: q) (by simp) with h | ⟨h1, h⟩
        · rw [h]
          conv => whnf
          refine Eq.mp ?_ hQ
          kernel_rfl
        · rw [h]
          conv => whnf
          have hw : IntKind.i64.wrap ((eMsg m).length + ((bsA (b :: q)).length : Int)) = (((eMsg m).length + (b :: q).length : Nat) : Int) := by
            rw [bsA_length, IntWalk.i64_in _ (by omega)]
            omega
          have hg : decide (IntKind.i64.wrap (((List.take (eMsg m).length (List.drop 0 (bsA (eMsg m)))).length : Int) + ((bsA (b :: q)).length : Int)) > 1048576) = true := by
            rw [hd, hw]
            exact decide_eq_true h1
          rw [← hg] at hQ
          refine Eq.mp ?_ hQ
          kernel_rfl
    · rw [decide_eq_true c1]
      conv => whnf
      rw [hd, decide_eq_false c2]
      conv => whnf
      rcases l with _ | ⟨b, q⟩
      · conv => whnf
        refine Eq.mp ?_ hQ
        kernel_rfl
      · conv => whnf
        refine ⟨fall, ?_⟩
        conv => whnf
        refine ⟨fits_at (ys' := bsA (b :: q)) (by kernel_rfl) (by
          show FitsA (bsA (b :: q)) 1 1 (List.take (eMsg m).length (List.drop 0 (bsA (eMsg m)))).length
          rw [take_all, bsA_length]
          exact fits_bs (by omega)), ?_⟩
        conv => whnf
        refine ⟨eMsg m ++ b :: q, by
          show List.take (eMsg m).length (List.drop 0 (bsA (eMsg m))) ++ bsA (b :: q) = _
          rw [take_all, bsA_append], ⟨okB_app hb hl, by rw [List.length_append]; omega⟩, ?_⟩
        rcases decM_more k1 (q := b :: q) (by simp) with h | ⟨h1, h⟩
        · rw [h]
          conv => whnf
          refine Eq.mp ?_ hQ
          kernel_rfl
        · rw [h]
          conv => whnf
          have hw : IntKind.i64.wrap ((eMsg m).length + ((bsA (b :: q)).length : Int)) = (((eMsg m).length + (b :: q).length : Nat) : Int) := by
            rw [bsA_length, IntWalk.i64_in _ (by omega)]
            omega
          have hg : decide (IntKind.i64.wrap (((List.take (eMsg m).length (List.drop 0 (bsA (eMsg m)))).length : Int) + ((bsA (b :: q)).length : Int)) > 1048576) = true := by
            rw [hd, hw]
            exact decide_eq_true h1
          rw [← hg] at hQ
          refine Eq.mp ?_ hQ
          kernel_rfl
  · rw [decide_eq_false c1]
    conv => whnf
    rcases l with _ | ⟨b, q⟩
    · conv => whnf
      refine Eq.mp ?_ hQ
      kernel_rfl
    · conv => whnf
      refine ⟨fall, ?_⟩
      conv => whnf
      refine ⟨fits_at (ys' := bsA (b :: q)) (by kernel_rfl) (by
        show FitsA (bsA (b :: q)) 1 1 (List.take (eMsg m).length (List.drop 0 (bsA (eMsg m)))).length
        rw [take_all, bsA_length]
        exact fits_bs (by omega)), ?_⟩
      conv => whnf
      refine ⟨eMsg m ++ b :: q, by
        show List.take (eMsg m).length (List.drop 0 (bsA (eMsg m))) ++ bsA (b :: q) = _
        rw [take_all, bsA_append], ⟨okB_app hb hl, by rw [List.length_append]; omega⟩, ?_⟩
      rcases decM_more k1 (q := b :: q) (by simp) with h | ⟨h1, h⟩
      · rw [h]
        conv => whnf
        refine Eq.mp ?_ hQ
        kernel_rfl
      · rw [h]
        conv => whnf
        have hw : IntKind.i64.wrap ((eMsg m).length + ((bsA (b :: q)).length : Int)) = (((eMsg m).length + (b :: q).length : Nat) : Int) := by
          rw [bsA_length, IntWalk.i64_in _ (by omega)]
          omega
        have hg : decide (IntKind.i64.wrap (((List.take (eMsg m).length (List.drop 0 (bsA (eMsg m)))).length : Int) + ((bsA (b :: q)).length : Int)) > 1048576) = true := by
          rw [hd, hw]
          exact decide_eq_true h1
        rw [← hg] at hQ
        refine Eq.mp ?_ hQ
        kernel_rfl

set_option maxRecDepth 100000 in
theorem s8 {T : Tab} (hT : TGood Tryd.prog T) : SGood Tryd.prog 8 (pureT g8) := pureT_good g8_det fun args Q h => by
  unfold g8 at h
  split at h
  · obtain ⟨m, l, rfl, hm, hc, rfl, hl, hll, hQ⟩ := h
    have t1 := ext_good hT (s14 hT)
    have t2 := ext_good t1 (s15 t1)
    have t3 := ext_good t2 (s16 t2)
    exact body_pure (ext_good t3 (s20 t3)) mixedT Tryd.func8 (entersOf Tryd.func8 (by kernel_rfl) rfl) 0 (f8_ok m hm hc _ l hl hll T Q hQ 0)
  · exact h.elim
end Go.Abs

