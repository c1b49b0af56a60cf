/-
msg.Decode's deferred closure, called.
-/
import Derived.Test.YtmainkiflkagjaaGreatDoorAbw11
import Derived.Test.YtmainkiflkagjaaGreatDoorAbw12
namespace Go.Abs
open Go Go.Proofs

set_option maxRecDepth 100000 in
set_option maxHeartbeats 4000000 in
/-- It catches what was thrown. -/
theorem callsD58 {Mx : Mut} {G : Gh} {w : World} {m : MsV} {v2 v3 v : Value} (hs : Sim Mx G [.var (msC m), .var [.int .i64 0]] w)
    (h2 : RV w (MM Mx G [.var (msC m), .var [.int .i64 0]]) 2 G v2 (.ptr 0 0)) (h3 : RV w (MM Mx G [.var (msC m), .var [.int .i64 0]]) 2 G v3 (.ptr 1 0)) (hv : RV w (MM Mx G [.var (msC m), .var [.int .i64 0]]) 2 G v eM) :
    CallsD Tryz.prog 57 #[v2, v3] (.panicking [{ v, recovered := false }]) w fun e u' w' => (∃ r, e = .returned r) ∧ settle u' = .returning ∧
      ∃ G', Step 2 Mx G [.var (msC m), .var [.int .i64 0]] w G' [.var zC, .var [.int .i64 51]] w' ∧ Sim Mx G' [.var zC, .var [.int .i64 51]] w' := by
  refine callsD_of_wpS Tryz.func57 rfl fun c₀ cs hu => ?_
  apply wpS_seq
  apply wpS_region
  have ht : TV w (MM Mx G [.var (msC m), .var [.int .i64 0]]) 2 G #[v2, v3, v, v, undef, undef, undef, undef, undef] [.ptr 0 0, .ptr 1 0, eM, eM, .tuple [], .tuple [], .tuple [], .tuple [], .tuple []] := by
    refine ⟨rfl, fun i u x e1 e2 => ?_⟩
    have un : RV w (MM Mx G [.var (msC m), .var [.int .i64 0]]) 2 G undef (.tuple []) := .tuple _ _ _ _ rfl (fun i v x h => by simp at h)
    match i, e1, e2 with
    | 0, e1, e2 => cases e1; cases e2; exact h2
    | 1, e1, e2 => cases e1; cases e2; exact h3
    | 2, e1, e2 => cases e1; cases e2; exact hv
    | 3, e1, e2 => cases e1; cases e2; exact hv
    | 4, e1, e2 => cases e1; cases e2; exact un
    | 5, e1, e2 => cases e1; cases e2; exact un
    | 6, e1, e2 => cases e1; cases e2; exact un
    | 7, e1, e2 => cases e1; cases e2; exact un
    | 8, e1, e2 => cases e1; cases e2; exact un
    | i + 9, e1, e2 => simp at e2
  have hT0 : TGood Tryz.prog noTab := noTab_good
  have hrest := acode_sound (P := Tryz.prog) hT0.ok hT0.ang hT0.mono mixedT 2 0 (seqR (bodyOf Tryz.f57)) { nxt := [], ex := [], rt := [] } K58 _ _ (rest58_ok m noTab 0) Mx G w
    { tmps := #[v2, v3, v, v, undef, undef, undef, undef, undef], defers := [] } (Nat.le_refl _) hs ht
  simp [wpOpsS, go_sem, recoverD, hu, Exit.thenS]
  refine wpS_of_wp ?_
  have hact : (#[v2, v3] ++ ((Array.replicate 7 undef).setIfInBounds 1 v).setIfInBounds 0 v) = #[v2, v3, v, v, undef, undef, undef, undef, undef] := rfl
  rw [hact]
  refine hrest _ (fun e e' a' H' G' w' act' g1 g2 g3 g4 g5 g6 => ?_)
  obtain ⟨e1, e2⟩ := g6
  subst e1 e2
  cases g5
  refine ⟨g4, .panicking [{ v := v, recovered := true }], rfl, .tuple #[], by simp [results], ⟨_, rfl⟩, rfl, G', g1, g2⟩

set_option maxRecDepth 100000 in
set_option maxHeartbeats 4000000 in
/-- It finds nothing to catch. -/
theorem callsD58i {w : World} {v2 v3 : Value} : CallsD Tryz.prog 57 #[v2, v3] .returning w fun e u' w' => (∃ r, e = .returned r) ∧ u' = .returning ∧ w' = w := by
  refine callsD_of_wpS Tryz.func57 rfl fun c₀ cs hu => ?_
  apply wpS_seq
  apply wpS_region
  simp [wpOpsS, go_sem, recoverD, hu, Exit.thenS]
  refine wpS_of_wp ?_
  have hnn : ∀ w, (binOp .neq 20 .nilIface .nilIface).run Tryz.prog w = .ok (.bool false) w := fun w => run_neq_nil_nil_at w 20 (by kernel_rfl)
  refine wp_seq (wp_region ?_)
  simp [wpOps, Oper.wp, Oper.upon, go_sem, execOp, Act.put, Act.eval, Region.wanted, hnn, Exit.then]
  refine .inl (.inl ?_)
  refine wp_cond_false rfl (wp_skip ?_)
  refine ⟨rfl, .returning, ?_, .tuple #[], by simp [results], ⟨_, rfl⟩, rfl, rfl⟩
  cases c₀
  simp_all
end Go.Abs

/-
msg.Decode: what its code comes to.
-/
namespace Go.Abs
open Go Go.Proofs

def zCk (k : Int) : List AV := [.int .i64 k, .int .i64 0, .int .i64 0, .int .i64 0, .int .i64 0, .int .i64 0, .int .i64 0, .int .i64 0, .int .i64 0, .int .i64 0, .zslice, .zslice, .int .i64 0, .int .i64 0, .zslice, .zslice, .zslice, .zslice, .zslice, .zslice, .zslice, .zslice, .zslice]
def rLoop (l : List Int) (k : Int) : Nat → Nat → MsV → RM MsV
  | 0, _, m => RM.pure m
  | n + 1, i, m => RM.bind (cond (hasF k i) (rField l m i) (RM.pure m)) fun m' => rLoop l k n (i + 1) m'
/-- The message, and the error's number. -/
def decM (l : List Int) : MsV × Int :=
  if (l.length : Int) > 1048576 then (zM, 53) else
  match rNum l 0 with
  | (none, _) => (zM, 51)
  | (some k, a1) => match rLoop l k 15 0 { zM with kind := k } a1 with
    | (none, _) => (zM, 51)
    | (some m, a2) => if fieldsL k = [] ∨ ¬ a2 = l.length then (zM, 51) else (m, 0)

def H0d : Heap := [.var zC, .var [.int .i64 0]]
def A0d (l : List Int) : List AV := [.slice (bsA l), .tuple [], .ptr 0 0, .ptr 1 0] ++ List.replicate 41 (.tuple [])
def A1d (l : List Int) : List AV := [.slice (bsA l), .tuple [], .ptr 0 0, .ptr 1 0, .tuple [], .tuple [], .tuple [], .tuple [], .slice (bsA l), .int .i64 ((bsA l).length : Nat), .bool false] ++ List.replicate 34 (.tuple [])
def A2d (l : List Int) : List AV := [.slice (bsA l), .tuple [], .ptr 0 0, .ptr 1 0, .tuple [], .tuple [], .tuple [], .tuple [], .slice (bsA l), .int .i64 ((bsA l).length : Nat), .bool false, .tuple [], .func (.func 57) [] [.ptr 0 0, .ptr 1 0]] ++ List.replicate 32 (.tuple [])
def leD : LE := { nxt := [], ex := [], rt := [2, 3] }
def RetD (Q : AOut → Prop) (a : List AV) (H : Heap) : Prop := ∃ cs e0, agc 2 [0, 1] [a.getD 2 .any, a.getD 3 .any] H = ([.ptr 0 0, .ptr 1 0], [.var cs, .var [.int .i64 e0]]) ∧ (∃ m, cs.map unz = msC m) ∧ Q (.ret (.tuple [.agg (cs.map unz), .int .i64 e0]))
def K0d (l : List Int) : KT := fun e a H => e = .normal ∧ a = A0d l ∧ H = H0d
def K1d (l : List Int) (Q : AOut → Prop) : KT := fun e a H => (e = .normal ∧ a = A1d l ∧ H = H0d ∧ ¬ (l.length : Int) > 1048576) ∨ (e = .ret ∧ RetD Q a H)
def K3d (Q : AOut → Prop) : KT := fun e a H => match e with
  | .pan v => ∃ cs m, agc 2 [0, 1, 2] [v, a.getD 2 .any, a.getD 3 .any] H = ([eM, .ptr 0 0, .ptr 1 0], [.var cs, .var [.int .i64 0]]) ∧ cs.map unz = msC m ∧ Q (.ret (.tuple [.agg (msC zM), .int .i64 51]))
  | .exit _ => False
  | _ => RetD Q a H

set_option maxRecDepth 100000 in
set_option maxHeartbeats 4000000 in
theorem d0_ok (l : List Int) (T : Tab) (N : Nat) : acode Tryz.prog T 0 N (seqL (bodyOf Tryz.f17)) leD (K0d l) ([.slice (bsA l)] ++ List.replicate 44 (.tuple [])) [] := by
  conv => whnf
  refine ⟨rfl, ?_, ?_⟩
  · kernel_rfl
  · kernel_rfl

set_option maxRecDepth 100000 in
set_option maxHeartbeats 4000000 in
theorem d1_ok (l : List Int) (T : Tab) (N : Nat) (Q : AOut → Prop) (hQ : Q (.ret (.tuple [.agg (msC (decM l).1), .int .i64 (decM l).2]))) : acode Tryz.prog T 2 N (seqL (seqR (bodyOf Tryz.f17))) leD (K1d l Q) (A0d l) H0d := by
  have hlen : ((bsA l).length : Int) = (l.length : Int) := by rw [bsA_length]
  conv => whnf
  split
  · rename_i h
    have h : ((bsA l).length : Int) > 1048576 := of_decide_eq_true h
    rw [hlen] at h
    unfold decM at hQ
    rw [if_pos h] at hQ
    conv => whnf
    refine .inr ⟨rfl, zC, 53, by kernel_rfl, ⟨zM, rfl⟩, ?_⟩
    exact hQ
  · rename_i h
    have h : ¬ ((bsA l).length : Int) > 1048576 := of_decide_eq_false h
    rw [hlen] at h
    conv => whnf
    refine .inl ⟨rfl, ?_, ?_, h⟩
    · kernel_rfl
    · kernel_rfl

def Tdec (T : Tab) : Tab := ext (ext (ext (ext T 47 (flatT g45)) 49 (flatT g47)) 58 (readerT g59)) 59 fieldRT

set_option maxRecDepth 100000 in
set_option maxHeartbeats 8000000 in
theorem d3_ok (l : List Int) (hl : OkL l) (hbig : ¬ (l.length : Int) > 1048576) (T : Tab) (Q : AOut → Prop) (hQ : Q (.ret (.tuple [.agg (msC (decM l).1), .int .i64 (decM l).2]))) (N : Nat) (hN : 15 < N) :
    acode Tryz.prog (Tdec T) 2 N (seqR (seqR (seqR (bodyOf Tryz.f17)))) leD (K3d Q) (A2d l) H0d := by
  have hlen : ((bsA l).length : Int) = (l.length : Int) := by rw [bsA_length]
  unfold decM at hQ
  rw [if_neg hbig] at hQ
  conv => whnf
  refine ⟨l, rfl, hl, ?_⟩
  rcases h1 : rNum l 0 with ⟨_ | k, a1⟩
  · rw [show g59 l 0 = (none, a1) by simp only [g59, RM.map, h1]]
    rw [h1] at hQ
    conv => whnf
    exact ⟨zC, zM, by kernel_rfl, rfl, hQ⟩
  rw [show g59 l 0 = (some (.int .i64 k), a1) by simp only [g59, RM.map, h1]]
  rw [h1] at hQ
  dsimp only at hQ
  conv => whnf
  refine aloop_at ?_ ?_ (aloop_inv (σ := Nat × Bool × MsV × Int) (fun s => ((sp 0 45 [(0, .slice (bsA l)), (2, .ptr 0 0), (3, .ptr 1 0), (4, .ptr 2 0), (5, .str (baOf (fieldsL k))), (22, .ptr 3 0)]), [.var (cond s.2.1 (msC s.2.2.1) (zCk k)), .var [.int .i64 0], rvar l s.2.2.2, .iter (baOf allL) s.1]))
    (fun s => s.1 ≤ 15 ∧ (s.2.1 = false → s.2.2.1 = { zM with kind := k }) ∧ rLoop l k 15 0 { zM with kind := k } a1 = rLoop l k (15 - s.1) s.1 s.2.2.1 s.2.2.2) (fun s => 15 - s.1) ?_ N (0, false, { zM with kind := k }, a1) ⟨Nat.zero_le _, fun _ => rfl, rfl⟩ (by dsimp only; omega))
  · kernel_rfl
  · kernel_rfl
  rintro ⟨i, fl, m, a⟩ ⟨hi, hfl, hinv⟩ R hR
  dsimp only at hi hfl hinv
  have hcs : ∀ fl', fl' = fl → (cond fl' (msC m) (zCk k)).map unz = msC m := fun fl' e => by
    subst e
    cases fl' with
    | true => rfl
    | false => rw [hfl rfl]; rfl
  cases fl
  all_goals
    have hmm := hcs _ rfl
    clear hcs
    conv => whnf
    split
    rotate_left
    · rename_i h2
      have h2 : ¬ i < (baOf allL).size := fun h => by rw [← Nat.blt_eq] at h; rw [show Nat.blt i (baOf allL).size = false from h2] at h; cases h
      rw [baOf_size] at h2
      have hi15 : i = 15 := by have : allL.length = 15 := rfl; omega
      subst hi15
      clear hR
      have hfin : rLoop l k 15 0 { zM with kind := k } a1 = (some m, a) := hinv
      rw [hfin] at hQ
      dsimp only at hQ
      have he : ((baOf (fieldsL k)).toList == (baOf []).toList) = decide (fieldsL k = []) := baOf_inj (fun b hb => by have := (fieldsL_ok k).1 b hb; omega) okB_nil
      cases hd : decide (fieldsL k = []) with
      | true =>
        rw [hd] at he
        rw [if_pos (.inl (of_decide_eq_true hd))] at hQ
        have he' : ((baOf (fieldsL k)).toList == ({ data := #[] } : ByteArray).toList) = true := he
        conv => whnf
        rw [he']
        conv => whnf
        exact ⟨zC, 51, by kernel_rfl, ⟨zM, rfl⟩, hQ⟩
      | false =>
        rw [hd] at he
        have hne : ¬ fieldsL k = [] := of_decide_eq_false hd
        have he' : ((baOf (fieldsL k)).toList == ({ data := #[] } : ByteArray).toList) = false := he
        conv => whnf
        rw [he']
        conv => whnf
        rw [hlen]
        cases hb : (a != (l.length : Int)) with
        | true =>
          rw [if_pos (.inr (bne_iff_ne.1 hb))] at hQ
          conv => whnf
          exact ⟨zC, 51, by kernel_rfl, ⟨zM, rfl⟩, hQ⟩
        | false =>
          have hab : a = (l.length : Int) := by simpa using hb
          rw [if_neg (by rintro (h | h); exact hne h; exact h hab)] at hQ
          conv => whnf
          rw [← hmm] at hQ
          exact ⟨_, 0, by kernel_rfl, ⟨m, hmm⟩, hQ⟩
    rename_i h2
    have h2 : i < (baOf allL).size := Nat.blt_eq.mp h2
    rw [baOf_size] at h2
    have hi15 : i < 15 := h2
    obtain ⟨n, hn⟩ : ∃ n, 15 - i = n + 1 := ⟨14 - i, by omega⟩
    have hn2 : 15 - (i + 1) = n := by omega
    rw [hn] at hinv
    have hget : allL[i]? = some (letter i) := allL_get ⟨i, hi15⟩
    have hd := dec_baOf allL_okA hget
    have hb0 := (allL_okA _ (List.mem_of_getElem? hget)).1
    have hd1 : ((Utf8.decode (baOf allL) i).1 : Int) = letter i := by rw [hd]; show (((letter i).toNat : Nat) : Int) = letter i; omega
    have hd2 : (Utf8.decode (baOf allL) i).2 = 1 := by rw [hd]
    have hH : ∀ x y z : HO, [x, y, z, HO.iter (baOf allL) (i + (Utf8.decode (baOf allL) i).2)] = [x, y, z, HO.iter (baOf allL) (i + 1)] := fun x y z => by rw [hd2]
    conv => whnf
    rw [hd1]
    refine ⟨fieldsL k, rfl, (fieldsL_ok _).1, (fieldsL_ok _).2, ?_⟩
    conv => whnf
    split
    · rename_i h3
      have h3 : hasF k i = true := h3
      rcases h4 : rField l m i a with ⟨_ | m', a'⟩
      · have : rLoop l k 15 0 { zM with kind := k } a1 = (none, a') := by rw [hinv]; simp only [rLoop, RM.bind, h3, _root_.cond_true, h4]
        rw [this] at hQ
        conv => whnf
        refine ⟨l, m, i, rfl, hmm, hl, hi15, rfl, ?_⟩
        rw [h4]
        conv => whnf
        exact ⟨_, m, by kernel_rfl, msC_unz m, hQ⟩
      · have hst : rLoop l k 15 0 { zM with kind := k } a1 = rLoop l k n (i + 1) m' a' := by rw [hinv]; simp only [rLoop, RM.bind, h3, _root_.cond_true, h4]
        conv => whnf
        refine ⟨l, m, i, rfl, hmm, hl, hi15, rfl, ?_⟩
        rw [h4]
        conv => whnf
        refine R_at ?_ ?_ (hR (i + 1, true, m', a') ⟨by omega, fun h => (by cases h), by rw [hn2]; exact hst⟩ (by dsimp only; omega))
        · kernel_rfl
        · refine Eq.trans ?_ (hH _ _ _)
          kernel_rfl
    · rename_i h3
      have h3 : hasF k i = false := h3
      have hst : rLoop l k 15 0 { zM with kind := k } a1 = rLoop l k n (i + 1) m a := by rw [hinv]; simp only [rLoop, RM.bind, RM.pure, h3, _root_.cond_false]
      conv => whnf
      refine R_at ?_ ?_ (hR (i + 1, _, m, a) ⟨by omega, hfl, by rw [hn2]; exact hst⟩ (by dsimp only; omega))
      · kernel_rfl
      · refine Eq.trans ?_ (hH _ _ _)
        kernel_rfl

end Go.Abs

/-
msg.Decode is what it comes to.
-/
namespace Go.Abs
open Go Go.Proofs

theorem msC_plain (m : MsV) : ∀ y ∈ msC m, (∃ k i, y = .int k i) ∨ ∃ es, y = .slice es := by
  intro y hy
  simp only [msC, List.mem_cons, List.not_mem_nil, or_false] at hy
  rcases hy with h | h | h | h | h | h | h | h | h | h | h | h | h | h | h | h | h | h | h | h | h | h | h <;> subst h <;> first | exact .inl ⟨_, _, rfl⟩ | exact .inr ⟨_, rfl⟩

theorem rv_unz {w w' : World} {M M' : Mut} (hcell : ∀ k i v, w.cell? ⟨k, i, none⟩ = some v → ¬ M k i → w'.cell? ⟨k, i, none⟩ = some v ∧ ¬ M' k i) {n n' : Nat} {G G' : Gh} {v : Value} {x : AV} (h : RV w M n G v x) (hp : (∃ k i, unz x = .int k i) ∨ ∃ es, unz x = .slice es) : RV w' M' n' G' v (unz x) := by
  cases x with
  | zslice => obtain ⟨A, rfl⟩ := h.zslice_inv; exact .slice0 ..
  | int k i => rw [h.int_inv]; exact .int ..
  | slice es => exact h.slice_any hcell
  | _ => rcases hp with ⟨_, _, hp⟩ | ⟨_, hp⟩ <;> cases hp

set_option maxRecDepth 100000 in
theorem res20 : Tryz.f17.results.toList = [.cell 2 43, .cell 3 35] := by kernel_rfl
set_option maxRecDepth 100000 in
theorem ty33 : tyOf Tryz.prog 43 = some (true, 23) := by kernel_rfl
set_option maxRecDepth 100000 in
theorem ty35 : tyOf Tryz.prog 35 = some (false, 1) := by kernel_rfl

theorem agc_any (x : AV) (H : Heap) : (agc 2 [0, 1] [.any, x] H).1.head? = some .any := by simp [agc, keepOnly, renL, ren]
theorem agc_any2 (x : AV) (H : Heap) : (agc 2 [0, 1] [x, .any] H).1[1]? = some .any := by simp [agc, keepOnly, renL, ren]

theorem dec_fin {Mx : Mut} {G G' : Gh} {H' : Heap} {w w' : World} {tmps : Array Value} {a : List AV} {Q : AOut → Prop} (hs : Sim Mx G [] w) (hst : Step 0 Mx G [] w G' H' w') (hsim : Sim Mx G' H' w') (ht : TV w' (MM Mx G' H') H'.length G' tmps a) (hp : 2 ≤ H'.length) (h : RetD Q a H') :
    ∃ v, (results Tryz.f17 tmps).run Tryz.prog w' = .ok v w' ∧ ∃ out H2 G2, Step 0 Mx G [] w G2 H2 w' ∧ Sim Mx G2 H2 w' ∧ ER w' (MM Mx G2 H2) H2.length G2 (.returned v) out ∧ H2 = [] ∧ Q out := by
  obtain ⟨cs, e0, hagc, ⟨m, hm⟩, hQ⟩ := h
  have hlen3 : 3 < a.length := by
    rcases Nat.lt_or_ge 3 a.length with h | h
    · exact h
    · have e3 : a.getD 3 .any = .any := by rw [List.getD_eq_getElem?_getD, List.getElem?_eq_none h]; rfl
      rw [e3] at hagc
      have := agc_any2 (a.getD 2 .any) H'
      rw [hagc] at this
      simp at this
  have g2 : a[2]? = some (a.getD 2 .any) := by rw [List.getD_eq_getElem?_getD, List.getElem?_eq_getElem (by omega)]; rfl
  have g3 : a[3]? = some (a.getD 3 .any) := by rw [List.getD_eq_getElem?_getD, List.getElem?_eq_getElem (by omega)]; rfl
  have hsz := ht.1
  have t2 : tmps[2]? = some tmps[2] := Array.getElem?_eq_getElem (by omega)
  have t3 : tmps[3]? = some tmps[3] := Array.getElem?_eq_getElem (by omega)
  have htv2 : TV w' (MM Mx G' H') H'.length G' #[tmps[2], tmps[3]] [a.getD 2 .any, a.getD 3 .any] := ⟨rfl, fun i v x e1 e2 => by
    match i, e1, e2 with
    | 0, e1, e2 => cases e1; cases e2; exact ht.2 2 _ _ t2 g2
    | 1, e1, e2 => cases e1; cases e2; exact ht.2 3 _ _ t3 g3
    | i + 2, e1, e2 => simp at e2⟩
  obtain ⟨G2, k1, k2, k3, k4⟩ := agc_sound [0, 1] hp hsim htv2
  rw [hagc] at k1 k2 k3 k4
  dsimp only at k1 k2 k3 k4
  -- the results
  let a' : List AV := (List.range tmps.size).map fun i => if i = 2 then .ptr 0 0 else if i = 3 then .ptr 1 0 else .any
  have htv : TV w' (MM Mx G2 [.var cs, .var [.int .i64 e0]]) 2 G2 tmps a' := ⟨by simp [a'], fun i v x e1 e2 => by
    simp only [a', List.getElem?_map, Option.map_eq_some_iff] at e2
    obtain ⟨j, hj, rfl⟩ := e2
    have hij := (List.getElem?_eq_some_iff.1 hj).2
    rw [List.getElem_range] at hij
    subst hij
    by_cases h2 : i = 2
    · subst h2
      rw [t2] at e1
      cases e1
      exact k2.2 0 _ _ rfl rfl
    · by_cases h3 : i = 3
      · subst h3
        rw [t3] at e1
        cases e1
        exact k2.2 1 _ _ rfl rfl
      · rw [if_neg h2, if_neg h3]; exact .any ..⟩
  have hcl : cs.length = 23 := by have := congrArg List.length hm; simpa [msC] using this
  have a2 : a'.getD 2 .any = .ptr 0 0 := by
    simp only [a', List.getD_eq_getElem?_getD, List.getElem?_map]
    rw [List.getElem?_range (by omega)]
    rfl
  have a3 : a'.getD 3 .any = .ptr 1 0 := by
    simp only [a', List.getD_eq_getElem?_getD, List.getElem?_map]
    rw [List.getElem?_range (by omega)]
    rfl
  have hres : aresults Tryz.prog a' [.var cs, .var [.int .i64 e0]] Tryz.f17.results.toList = some [.agg cs, .int .i64 e0] := by
    rw [res20]
    simp only [aresults, a2, a3, cellsAt, ty33, ty35, List.getElem?_cons_zero, List.getElem?_cons_succ, List.drop_zero]
    rw [if_pos (by omega), List.take_of_length_le (by omega)]
  obtain ⟨us, r1, r2, r3⟩ := aresults_sound (P := Tryz.prog) k1 htv Tryz.f17.results.toList _ hres
  match us, r2 with
  | [u0, u1], _ =>
    refine ⟨.tuple #[u0, u1], ?_, .ret (.tuple [.agg (cs.map unz), .int .i64 e0]), [], G0, ?_, ?_, ?_, rfl, hQ⟩
    · have hm : (Tryz.f17.results.mapM (m := Sem) fun | .tmp t => pure (tmps.getD t undef) | .cell a t => do loadVar t (← asAddr (tmps.getD a undef))).run Tryz.prog w' = .ok #[u0, u1] w' := by
        rw [← Array.toArray_toList (xs := Tryz.f17.results), List.mapM_toArray, Sem.run_map]
        exact congrArg (fun r => Result.andThen r fun a w' => .ok a.toArray w') r1
      refine (Sem.run_bind (P := Tryz.prog) (w := w') (x := Tryz.f17.results.mapM (m := Sem) fun | .tmp t => pure (tmps.getD t undef) | .cell a t => do loadVar t (← asAddr (tmps.getD a undef))) (f := fun vs => pure (if h : vs.size = 1 then vs[0] else .tuple vs))).trans ?_
      rw [hm]
      rfl
    · exact ⟨hst.os, hst.tape, hst.output, hst.size, ⟨Nat.le_refl _, Nat.le_refl _⟩, hst.far, fun k i v g1 g2 => ⟨(hst.still k i v g1 g2).1, fun hm => by
        rcases hm with hm | ⟨b, l, o, hb, _⟩
        · exact g2 (.inl hm)
        · cases hb⟩, fun b l hb => absurd hb (Nat.not_lt_zero _), fun b l k hb => by cases hb⟩
    · exact ⟨fun b l hb => (by cases hb), fun b o hb => (by simp at hb), fun b b' l l' k hb => (by cases hb), fun b l k i hb => (by cases hb), fun k i hm => Nat.lt_of_lt_of_le (hs.lt k i hm) hst.size⟩
    · have hc : ∀ k i v, w'.cell? ⟨k, i, none⟩ = some v → ¬ MM Mx G2 [.var cs, .var [.int .i64 e0]] k i → w'.cell? ⟨k, i, none⟩ = some v ∧ ¬ MM Mx G0 [] k i := fun k i v g1 g2 => ⟨g1, fun hm => by
        rcases hm with hm | ⟨b, l, o, hb, _⟩
        · exact g2 (.inl hm)
        · cases hb⟩
      have q0 := r3 0 u0 (.agg cs) rfl rfl
      have q1 := (r3 1 u1 (.int .i64 e0) rfl rfl).int_inv
      subst q1
      refine .ret _ _ (.tuple _ _ _ _ rfl fun i v x e1 e2 => ?_)
      match i, e1, e2 with
      | 0, e1, e2 =>
        cases e1; cases e2
        obtain ⟨vs, rfl, hvl, hvc⟩ := q0.agg_inv
        refine .agg _ _ _ _ (by rw [List.length_map]; exact hvl) fun j v y e1 e2 => ?_
        rw [List.getElem?_map, Option.map_eq_some_iff] at e2
        obtain ⟨x, hx, rfl⟩ := e2
        refine rv_unz hc (hvc j v x e1 hx) (msC_plain m (unz x) ?_)
        rw [← hm]
        exact List.mem_map_of_mem (List.mem_of_getElem? hx)
      | 1, e1, e2 => cases e1; cases e2; exact .int ..
      | i + 2, e1, e2 => simp at e2


theorem body20 : Tryz.f17.body = some (.seq (seqL (bodyOf Tryz.f17)) (.seq (seqL (seqR (bodyOf Tryz.f17))) (.seq (seqL (seqR (seqR (bodyOf Tryz.f17)))) (seqR (seqR (seqR (bodyOf Tryz.f17))))))) := by kernel_rfl
theorem reg20 : ∃ id o1 o2, seqL (seqR (seqR (bodyOf Tryz.f17))) = .region id #[o1, o2] false ∧ o1.op = .makeFunc (.func 57) #[] #[.tmp 2, .tmp 3] ∧ o1.guard = none ∧ o1.dst = some 12 ∧
    o2.op = .defer { callee := .value (.tmp 12), args := #[], argTypes := #[] } ∧ o2.guard = none ∧ o2.dst = none := ⟨_, _, _, rfl, rfl, rfl, rfl, rfl, rfl, rfl⟩

def g20 : GSpec := fun args K => match args with
  | [.slice es] => ∃ l : List Int, es = bsA l ∧ OkL l ∧ K (.ret (.tuple [.agg (msC (decM l).1), .int .i64 (decM l).2]))
  | _ => False
theorem g20_det (args : List AV) : Det (g20 args) := by
  unfold g20
  repeat' (first | exact Det.no | exact Det.at _ | refine Det.and ?_ | refine Det.ex fun _ => ?_ | refine Det.cond ?_ ?_ | split)

set_option maxRecDepth 100000 in
set_option maxHeartbeats 4000000 in
theorem dec_FOK {T : Tab} (hT : TGood Tryz.prog T) (l : List Int) (hl : OkL l) (Q : AOut → Prop) (hQ : Q (.ret (.tuple [.agg (msC (decM l).1), .int .i64 (decM l).2]))) :
    FOK Tryz.prog 17 [.slice (bsA l)] [] fun out Hs => Hs = [] ∧ Q out := by
  have hT2 : TGood Tryz.prog (Tdec T) := by
    have h1 := ext_good hT (s45 hT)
    have h2 := ext_good h1 (s47 h1)
    have h3 := ext_good h2 (s59 h2)
    exact ext_good h3 (s60 h3)
  refine ⟨entersOf Tryz.func17 (by kernel_rfl) rfl, fun Mx G w cargs hs ht => ?_⟩
  refine calls_of_wp_defers Tryz.func17 body20 ?_
  have hn : Tryz.f17.ntmps = 45 := rfl
  have htv : TV w (MM Mx G []) 0 G (cargs ++ Array.replicate (Tryz.f17.ntmps - cargs.size) undef) ([.slice (bsA l)] ++ List.replicate 44 (.tuple [])) := by
    have hc1 : cargs.size = 1 := ht.1
    refine ⟨by simp [hc1], fun i v x h1 h2 => ?_⟩
    by_cases hi : i < 1
    · rw [List.getElem?_append_left (by simpa using hi)] at h2
      rw [Array.getElem?_append_left (by omega)] at h1
      exact ht.2 i v x h1 h2
    · rw [List.getElem?_append_right (by simp; omega)] at h2
      rw [Array.getElem?_append_right (by omega)] at h1
      have e1 := (List.mem_replicate.1 (List.mem_of_getElem? h2)).2
      have e2 : v = undef := by
        have := Array.mem_of_getElem? h1
        exact (Array.mem_replicate.1 this).2
      subst e1; subst e2
      exact .tuple _ _ _ _ rfl (fun i v x h => by simp at h)
  refine wp_seq ?_
  refine acode_sound hT.ok hT.ang hT.mono mixedT 0 0 _ leD (K0d l) _ _ (d0_ok l T 0) Mx G w _ (Nat.le_refl _) hs htv _ (fun e e' a' H' G' w' act' g1 g2 g3 g4 g5 g6 => ?_)
  obtain ⟨e1, e2, e3⟩ := g6
  subst e1 e2 e3
  cases g5
  have g4' : act'.defers = [] := g4
  refine wp_seq ?_
  refine acode_sound hT.ok hT.ang hT.mono mixedT 2 0 _ leD (K1d l Q) _ _ (d1_ok l T 0 Q hQ) Mx G' w' act' (by simp [H0d]) g2 g3 _ (fun e e' a2 H2 G2 w2 act2 m1 m2 m3 m4 m5 m6 => ?_)
  have m4' : act2.defers = [] := m4.trans g4'
  have st2 : Step 0 Mx G [] w G2 H2 w2 := g1.trans (Nat.zero_le _) m1
  rcases m6 with ⟨e1, e2, e3, hbig⟩ | ⟨e1, hret⟩
  · subst e1 e2 e3
    cases m5
    obtain ⟨id, o1, o2, hr3, p1, p2, p3, q1, q2, q3⟩ := reg20
    rw [hr3]
    refine wp_seq (wp_region ?_)
    have hsz : act2.tmps.size = 45 := m3.1
    have hlt : 12 < act2.tmps.size := by omega
    simp [wpOps, Oper.wp, Oper.upon, go_sem, execOp, Act.put, Act.eval, Region.wanted, Deferred.ofValue, p1, p2, p3, q1, q2, q3, hlt, Sem.run_pure]
    refine .inl (.inl ?_)
    have t2 : act2.tmps[2]? = some act2.tmps[2] := Array.getElem?_eq_getElem (by omega)
    have t3 : act2.tmps[3]? = some act2.tmps[3] := Array.getElem?_eq_getElem (by omega)
    rw [t2, t3]
    simp only [Option.getD_some]
    have hv2 := m3.2 2 _ (.ptr 0 0) t2 rfl
    have hv3 := m3.2 3 _ (.ptr 1 0) t3 rfl
    generalize act2.tmps[2] = v2 at t2 hv2 ⊢
    generalize act2.tmps[3] = v3 at t3 hv3 ⊢
    have htA : TV w2 (MM Mx G2 H0d) H0d.length G2 (act2.tmps.setIfInBounds 12 (.func (.func 57) #[] #[v2, v3])) (A2d l) := by
      refine ⟨by rw [Array.size_setIfInBounds]; exact hsz, fun i v x e1 e2 => ?_⟩
      by_cases hi : i = 12
      · subst hi
        rw [Array.getElem?_setIfInBounds_self_of_lt hlt] at e1
        cases e1; cases e2
        refine .func _ _ _ _ _ _ _ rfl rfl (fun i v x e => by simp at e) fun i v x e1 e2 => ?_
        match i, e1, e2 with
        | 0, e1, e2 => cases e1; cases e2; exact hv2
        | 1, e1, e2 => cases e1; cases e2; exact hv3
        | i + 2, e1, e2 => simp at e2
      · rw [Array.getElem?_setIfInBounds_ne (by omega)] at e1
        refine m3.2 i v x e1 ?_
        have e12 : (A2d l) = (A1d l).set 12 (.func (.func 57) [] [.ptr 0 0, .ptr 1 0]) := rfl
        rw [e12, List.getElem?_set_ne (by omega)] at e2
        exact e2
    refine acode_sound hT2.ok hT2.ang hT2.mono mixedT 2 16 _ leD (K3d Q) _ _ (d3_ok l hl hbig T Q hQ 16 (by omega)) Mx G2 w2 _ (by simp [H0d]) m2 htA _ (fun e e' a3 H3 G3 w3 act3 r1 r2 r3 r4 r5 r6 => ?_)
    dsimp only at r4
    rw [m4'] at r4
    have st3 : Step 0 Mx G [] w G3 H3 w3 := st2.trans (Nat.zero_le _) r1
    have hinv : ∀ w, (invoke (.fn (.func 57) #[v2, v3]) #[]).run Tryz.prog w = .ok (.enter 57 #[v2, v3]) w := fun w => by
      simp only [invoke]
      exact entersOf Tryz.func57 (by kernel_rfl) rfl (#[] ++ #[v2, v3]) w
    have hfine : RetD Q a3 H3 → bodyPostD Tryz.prog Tryz.f17 (fun e w' => ∃ out H' G', Step 0 Mx G [] w G' H' w' ∧ Sim Mx G' H' w' ∧ ER w' (MM Mx G' H') H'.length G' e out ∧ H' = [] ∧ Q out) .normal act3 w3 := fun hret => by
      obtain ⟨v, hr, hR⟩ := dec_fin hs st3 r2 r3 r1.len.2 hret
      show Leaves Tryz.prog Tryz.f17 act3.tmps _ act3.defers .returning w3
      rw [r4]
      refine leaves_cons (by simp) (hinv w3) (callsD58i.mono fun e u' w' he => ?_)
      obtain ⟨⟨rr, rfl⟩, rfl, rfl⟩ := he
      exact ⟨v, hr, hR⟩
    cases r5 with
    | normal => exact hfine r6
    | ret => exact hfine r6
    | exit id => exact r6.elim
    | pan v x hx =>
      obtain ⟨cs, m, hag, hcs, hQ51⟩ := r6
      have hlen3 : 3 < a3.length := by
        rcases Nat.lt_or_ge 3 a3.length with h | h
        · exact h
        · have e3 : a3.getD 3 .any = .any := by rw [List.getD_eq_getElem?_getD, List.getElem?_eq_none h]; rfl
          rw [e3] at hag
          have := congrArg (fun p => p.1[2]?) hag
          simp [agc, keepOnly, renL, ren] at this
      have hsz3 := r3.1
      have u2 : act3.tmps[2]? = some act3.tmps[2] := Array.getElem?_eq_getElem (by omega)
      have u3 : act3.tmps[3]? = some act3.tmps[3] := Array.getElem?_eq_getElem (by omega)
      have g2 : a3[2]? = some (a3.getD 2 .any) := by rw [List.getD_eq_getElem?_getD, List.getElem?_eq_getElem (by omega)]; rfl
      have g3 : a3[3]? = some (a3.getD 3 .any) := by rw [List.getD_eq_getElem?_getD, List.getElem?_eq_getElem (by omega)]; rfl
      have htv3 : TV w3 (MM Mx G3 H3) H3.length G3 #[v, act3.tmps[2], act3.tmps[3]] [x, a3.getD 2 .any, a3.getD 3 .any] := ⟨rfl, fun i v x e1 e2 => by
        match i, e1, e2 with
        | 0, e1, e2 => cases e1; cases e2; exact hx
        | 1, e1, e2 => cases e1; cases e2; exact r3.2 2 _ _ u2 g2
        | 2, e1, e2 => cases e1; cases e2; exact r3.2 3 _ _ u3 g3
        | i + 3, e1, e2 => simp at e2⟩
      obtain ⟨G4, k1, k2, k3, k4⟩ := agc_sound [0, 1, 2] r1.len.2 r2 htv3
      rw [hag] at k1 k2 k3 k4
      dsimp only at k1 k2 k3 k4
      have hcl : cs.length = 23 := by have := congrArg List.length hcs; simpa [msC] using this
      obtain ⟨n1, n2⟩ := k1.revar (b := 0) (cs := cs) (cs' := msC m) rfl (by rw [← hcs, List.length_map]) (fun i v x y e1 e2 h1 h2 => by
        rw [← hcs, List.getElem?_map, e1] at e2
        cases e2
        refine rv_unz (fun k i v q1 q2 => ⟨q1, q2⟩) h2 (msC_plain m _ ?_)
        rw [← hcs]
        exact List.mem_map_of_mem (List.mem_of_getElem? e1))
      have n2' : Step 2 Mx G4 [.var cs, .var [.int .i64 0]] w3 G4 [.var (msC m), .var [.int .i64 0]] w3 := n2
      have s23 : Step 2 Mx G2 H0d w2 G4 [.var (msC m), .var [.int .i64 0]] w3 := (r1.trans (Nat.le_refl _) k3).trans (Nat.le_refl _) n2'
      have st4 : Step 0 Mx G [] w G4 [.var (msC m), .var [.int .i64 0]] w3 := st2.trans (Nat.zero_le _) s23
      have s23' : Step H0d.length Mx G2 H0d w2 G4 [.var (msC m), .var [.int .i64 0]] w3 := s23
      have hc2 := s23'.rv hv2
      have hc3 := s23'.rv hv3
      have hk : TV w3 (MM Mx G4 [.var (msC m), .var [.int .i64 0]]) 2 G4 #[v, act3.tmps[2], act3.tmps[3]] [eM, .ptr 0 0, .ptr 1 0] := Step.tv (H := [.var cs, .var [.int .i64 0]]) n2' k2
      show Leaves Tryz.prog Tryz.f17 act3.tmps _ act3.defers (.panicking [{ v, recovered := false }]) w3
      rw [r4]
      refine leaves_cons (by simp) (hinv w3) ((callsD58 n1 hc2 hc3 (hk.2 0 _ _ rfl rfl)).mono fun e u' w' he => ?_)
      obtain ⟨⟨rr, rfl⟩, hu, G5, z1, z2⟩ := he
      dsimp only
      rw [hu]
      have hz := Step.tv (H := [.var (msC m), .var [.int .i64 0]]) z1 hk
      have hfin := dec_fin (tmps := act3.tmps) (a := (List.range act3.tmps.size).map fun i => if i = 2 then .ptr 0 0 else if i = 3 then .ptr 1 0 else .any) (Q := Q) hs (st4.trans (Nat.zero_le _) z1) z2 ?_ (Nat.le_refl _) ⟨zC, 51, ?_, ⟨zM, rfl⟩, hQ51⟩
      · obtain ⟨v, hr, hR⟩ := hfin
        exact ⟨v, hr, hR⟩
      · refine ⟨by simp, fun i v x e1 e2 => ?_⟩
        simp only [List.getElem?_map, Option.map_eq_some_iff] at e2
        obtain ⟨j, hj, rfl⟩ := e2
        have hij := (List.getElem?_eq_some_iff.1 hj).2
        rw [List.getElem_range] at hij
        subst hij
        by_cases h2 : i = 2
        · subst h2
          rw [u2] at e1
          cases e1
          exact hz.2 1 _ _ rfl rfl
        · by_cases h3 : i = 3
          · subst h3
            rw [u3] at e1
            cases e1
            exact hz.2 2 _ _ rfl rfl
          · rw [if_neg h2, if_neg h3]; exact .any ..
      · have e2 : ((List.range act3.tmps.size).map fun i => if i = 2 then AV.ptr 0 0 else if i = 3 then .ptr 1 0 else .any).getD 2 .any = .ptr 0 0 := by
          simp only [List.getD_eq_getElem?_getD, List.getElem?_map]
          rw [List.getElem?_range (by omega)]
          rfl
        have e3 : ((List.range act3.tmps.size).map fun i => if i = 2 then AV.ptr 0 0 else if i = 3 then .ptr 1 0 else .any).getD 3 .any = .ptr 1 0 := by
          simp only [List.getD_eq_getElem?_getD, List.getElem?_map]
          rw [List.getElem?_range (by omega)]
          rfl
        rw [e2, e3]
        show agc 2 [0, 1] [.ptr 0 0, .ptr 1 0] [.var zC, .var [.int .i64 51]] = ([.ptr 0 0, .ptr 1 0], [.var zC, .var [.int .i64 51]])
        kernel_rfl
  · subst e1
    cases m5
    obtain ⟨v, hr, hR⟩ := dec_fin hs st2 m2 m3 m1.len.2 hret
    show Leaves Tryz.prog Tryz.f17 act2.tmps _ act2.defers .returning w2
    rw [m4']
    exact ⟨v, hr, hR⟩


theorem s20 {T : Tab} (hT : TGood Tryz.prog T) : SGood Tryz.prog 17 (pureT g20) := pureT_good g20_det (fun args Q hK => by
  unfold g20 at hK
  split at hK
  · obtain ⟨l, rfl, hl, hQ⟩ := hK
    exact dec_FOK hT l hl Q hQ
  · exact hK.elim)
end Go.Abs

/-
Plain laws: what is written is read as it was, and there is one way of writing; no program.
-/
namespace Go.Abs
open Go

/-- A reader and what it reads: each value is written in one way. -/
structure Cn {α : Type} (r : List Int → RM α) (w : α → List Int) (ok : α → Prop) : Prop where
  read : ∀ (p : List Int) (v : α) (q : List Int), ok v → r (p ++ w v ++ q) (p.length : Nat) = (some v, ((p.length + (w v).length : Nat) : Int))
  back : ∀ (l : List Int) (a : Nat) (v : α) (x : Int), okB l → a ≤ l.length → r l a = (some v, x) → ok v ∧ ∃ p q, l = p ++ w v ++ q ∧ a = p.length ∧ x = ((p.length + (w v).length : Nat) : Int)

theorem pre_eq {p p' q q' : List Int} (h : p ++ q = p' ++ q') (hl : p.length = p'.length) : p = p' ∧ q = q' := List.append_inj h hl

theorem Cn.bind {α γ : Type} {r1 : List Int → RM α} {w1 : α → List Int} {ok1 : α → Prop} (h1 : Cn r1 w1 ok1) (get : γ → α) {k : α → List Int → RM γ} {w2 : γ → List Int} {φ ok2 : γ → Prop}
    (h2 : ∀ a, Cn (k a) w2 (fun c => (φ c ∧ get c = a) ∧ ok2 c)) : Cn (fun l => RM.bind (r1 l) (fun a => k a l)) (fun c => w1 (get c) ++ w2 c) (fun c => φ c ∧ (ok1 (get c) ∧ ok2 c)) := by
  refine ⟨fun p v q ⟨hφ, hok1, hok2⟩ => ?_, fun l a v x hl ha h => ?_⟩
  · have e1 := h1.read p (get v) (w2 v ++ q) hok1
    have e2 := (h2 (get v)).read (p ++ w1 (get v)) v q ⟨⟨hφ, rfl⟩, hok2⟩
    simp only [List.append_assoc, List.length_append] at e1 e2 ⊢
    unfold RM.bind
    rw [e1]
    dsimp only
    rw [e2, Nat.add_assoc]
  · unfold RM.bind at h
    split at h
    · rename_i a1 x1 e1
      obtain ⟨o1, p, q', rfl, rfl, rfl⟩ := h1.back l a a1 x1 hl ha e1
      obtain ⟨⟨⟨k1, k2⟩, k3⟩, p2, q2, g1, g2, rfl⟩ := (h2 a1).back _ _ v x hl (by simp) h
      rw [k2]
      rw [List.append_assoc p2] at g1
      obtain ⟨rfl, rfl⟩ := pre_eq g1 (by rw [List.length_append]; exact g2)
      refine ⟨⟨k1, o1, k3⟩, p, q2, by simp only [List.append_assoc], rfl, ?_⟩
      simp only [List.length_append]
      omega
    · cases h
theorem Cn.pure {γ : Type} {c0 : γ} {φ : γ → Prop} (hφ : ∀ c, φ c ↔ c = c0) : Cn (fun _ => RM.pure c0) (fun _ => []) (fun c => φ c ∧ True) := by
  refine ⟨fun p v q ⟨h, _⟩ => ?_, fun l a v x _ ha h => ?_⟩
  · rw [(hφ v).1 h]; rfl
  · unfold RM.pure at h
    cases h
    refine ⟨⟨(hφ _).2 rfl, trivial⟩, l.take a, l.drop a, by simp, by simp; omega, by simp; omega⟩
theorem Cn.imp {α : Type} {r r' : List Int → RM α} {w w' : α → List Int} {ok ok' : α → Prop} (h : Cn r w ok) (hr : ∀ l, r' l = r l) (hw : ∀ v, w' v = w v) (hok : ∀ v, ok' v ↔ ok v) : Cn r' w' ok' := by
  obtain rfl : r' = r := funext hr
  obtain rfl : w' = w := funext hw
  exact ⟨fun p v q hv => h.read p v q ((hok v).1 hv), fun l a v x hl ha e => let ⟨h1, h2⟩ := h.back l a v x hl ha e; ⟨(hok v).2 h1, h2⟩⟩

/-! ### Numbers -/
theorem decF_enc : ∀ (k i : Nat) (n m : Int) (q : List Int), 0 ≤ m → m < 128 ^ (k + 1) → (0 < i → 0 < m) → n + m * 128 ^ i ≤ 2147483647 → decF i n (encF (k + 1) m ++ q) = some (n + m * 128 ^ i, i + (encF (k + 1) m).length) := by
  intro k
  induction k with
  | zero =>
    intro i n m q h0 h1 h2 h3
    have hm : m < 128 := by simpa using h1
    have e : m % 128 = m := by omega
    unfold encF
    rw [if_pos hm]
    simp only [List.singleton_append, decF, if_pos hm, e]
    rw [if_neg (by rintro (h | ⟨h, h'⟩) <;> omega)]
    rfl
  | succ k ih =>
    intro i n m q h0 h1 h2 h3
    unfold encF
    by_cases hm : m < 128
    · have e : m % 128 = m := by omega
      rw [if_pos hm]
      simp only [List.singleton_append, decF, if_pos hm, e]
      rw [if_neg (by rintro (h | ⟨h, h'⟩) <;> omega)]
      rfl
    · rw [if_neg hm]
      rw [Int.pow_succ] at h1
      have e2 : (m % 128 + 128) % 128 = m % 128 := by omega
      have e3 : n + m % 128 * 128 ^ i + m / 128 * 128 ^ (i + 1) = n + m * 128 ^ i := by
        rw [Int.pow_succ, Int.mul_comm (128 ^ i) 128, ← Int.mul_assoc, Int.add_assoc, ← Int.add_mul]
        congr 2
        omega
      have := ih (i + 1) (n + m % 128 * 128 ^ i) (m / 128) q (by omega) (by omega) (fun _ => by omega) (by rw [e3]; exact h3)
      simp only [List.cons_append, decF]
      rw [if_neg (by omega), e2, this, e3]
      simp only [List.length_cons, Option.some.injEq, Prod.mk.injEq, true_and]
      omega
theorem encF_stab : ∀ (k k' : Nat) (m : Int), 0 ≤ m → m < 128 ^ (k + 1) → m < 128 ^ (k' + 1) → encF (k + 1) m = encF (k' + 1) m
  | k, k', m, h0, h1, h2 => by
    unfold encF
    by_cases hm : m < 128
    · rw [if_pos hm, if_pos hm]
    · rw [if_neg hm, if_neg hm]
      congr 1
      match k, k' with
      | 0, _ => exact absurd (by simpa using h1) hm
      | _, 0 => exact absurd (by simpa using h2) hm
      | k + 1, k' + 1 =>
        rw [Int.pow_succ] at h1 h2
        exact encF_stab k k' (m / 128) (by omega) (by omega) (by omega)
theorem decF_back : ∀ (r : List Int) (i : Nat) (n v : Int) (j : Nat), okB r → 0 ≤ n → decF i n r = some (v, j) →
    ∃ k m q, r = encF (k + 1) m ++ q ∧ 0 ≤ m ∧ m < 128 ^ (k + 1) ∧ (0 < i → 0 < m) ∧ v = n + m * 128 ^ i ∧ v ≤ 2147483647 ∧ j = i + (encF (k + 1) m).length
  | [], i, n, v, j, _, _, h => by simp [decF] at h
  | c :: r, i, n, v, j, hb, hn, h => by
    have hc := hb c List.mem_cons_self
    unfold decF at h
    by_cases h1 : c < 128
    · rw [if_pos h1] at h
      split at h
      · cases h
      · rename_i h2
        simp only [Option.some.injEq, Prod.mk.injEq] at h
        obtain ⟨rfl, rfl⟩ := h
        have e : c % 128 = c := by omega
        rw [e] at h2 ⊢
        have hp : encF (0 + 1) c = [c] := by unfold encF; rw [if_pos h1]
        refine ⟨0, c, r, by rw [hp]; rfl, hc.1, by simpa using h1, fun hi => ?_, rfl, by omega, by rw [hp]; rfl⟩
        rcases Int.lt_or_le 0 c with h | h
        · exact h
        · exact absurd (.inr ⟨by omega, hi⟩) h2
    · rw [if_neg h1] at h
      have h0 : 0 ≤ (c % 128) * 128 ^ i := Int.mul_nonneg (by omega) (Int.pow_nonneg (by decide))
      obtain ⟨k, m, q, g1, g2, g3, g4, g5, g6, g7⟩ := decF_back r (i + 1) _ v j (fun b hbb => hb b (List.mem_cons_of_mem _ hbb)) (by omega) h
      have hm0 := g4 (Nat.succ_pos _)
      have hp : encF (k + 1 + 1) (c % 128 + 128 * m) = c :: encF (k + 1) m := by
        rw [encF, if_neg (by omega)]
        congr 1
        · omega
        · congr 1; omega
      refine ⟨k + 1, c % 128 + 128 * m, q, by rw [hp, g1]; rfl, by omega, ?_, fun _ => by omega, ?_, g6, by rw [hp, g7, List.length_cons]; omega⟩
      · rw [Int.pow_succ]; omega
      · rw [g5, Int.pow_succ, Int.mul_comm (128 ^ i) 128, ← Int.mul_assoc, Int.add_assoc, ← Int.add_mul]
        congr 2
        omega
theorem encI_five {n : Int} (h : okI n = true) : encI n = encF (4 + 1) n ∧ n < 128 ^ (4 + 1) ∧ 0 ≤ n ∧ n ≤ 2147483647 := by
  unfold okI at h
  simp only [Bool.and_eq_true, decide_eq_true_eq] at h
  have h5 : n < 128 ^ (4 + 1) := by have : (128 : Int) ^ (4 + 1) = 34359738368 := by decide
                                    omega
  have h6 : n < 128 ^ (5 + 1) := by have : (128 : Int) ^ (5 + 1) = 4398046511104 := by decide
                                    omega
  exact ⟨encF_stab 5 4 n h.1 h6 h5, h5, h.1, h.2⟩
theorem cn_num : Cn rNum encI (fun n => okI n = true) := by
  refine ⟨fun p v q hv => ?_, fun l a v x hl ha h => ?_⟩
  · obtain ⟨e, h5, h0, hm⟩ := encI_five hv
    have hlen : (encI v).length ≤ 5 := by rw [e]; exact encF_len 5 v
    have hd : ((p ++ encI v ++ q).drop ((p.length : Nat) : Int).toNat).take 5 = encF (4 + 1) v ++ q.take (5 - (encI v).length) := by
      rw [Int.toNat_natCast, List.append_assoc, List.drop_left, List.take_append, ← e, List.take_of_length_le hlen]
    unfold rNum decI
    rw [if_neg (by simp only [List.length_append]; omega), hd, decF_enc 4 0 0 v _ h0 h5 (fun h => absurd h (Nat.lt_irrefl 0)) (by simpa using hm), ← e]
    simp
  · unfold rNum at h
    split at h
    · rename_i n y hd
      simp only [Prod.mk.injEq, Option.some.injEq] at h
      obtain ⟨rfl, rfl⟩ := h
      unfold decI at hd
      split at hd
      · cases hd
      · rw [Option.map_eq_some_iff] at hd
        obtain ⟨⟨v, j⟩, hy, e⟩ := hd
        simp only [Prod.mk.injEq] at e
        obtain ⟨rfl, rfl⟩ := e
        obtain ⟨k, m, q, g1, g2, g3, _, g5, g6, g7⟩ := decF_back _ 0 0 v j (fun b hbb => hl b (List.mem_of_mem_drop (List.mem_of_mem_take hbb))) (Int.le_refl 0) hy
        have hv : v = m := by simpa using g5
        subst hv
        have hok : okI v = true := by unfold okI; simp only [Bool.and_eq_true, decide_eq_true_eq]; exact ⟨g2, g6⟩
        obtain ⟨e, h5, _, _⟩ := encI_five hok
        have he : encF (k + 1) v = encI v := by rw [e]; exact encF_stab k 4 v g2 g3 h5
        rw [he] at g1 g7
        refine ⟨hok, l.take a, q ++ (l.drop a).drop 5, ?_, by simp; omega, by rw [List.length_take, g7]; omega⟩
        have : l = l.take a ++ ((l.drop a).take 5 ++ (l.drop a).drop 5) := by rw [List.take_append_drop, List.take_append_drop]
        rw [Int.toNat_natCast] at g1
        rw [g1] at this
        simpa only [List.append_assoc] using this
    · cases h

/-! ### Texts -/
def okTx (p : List Int) : Prop := p.length ≤ 65536
theorem cn_text : Cn rText encB okTx := by
  refine ⟨fun p v q hv => ?_, fun l a v x hl ha h => ?_⟩
  · unfold okTx at hv
    have hok : okI v.length = true := by unfold okI; simp only [Bool.and_eq_true, decide_eq_true_eq]; omega
    have h1 := cn_num.read p v.length (v ++ q) hok
    unfold rNum at h1
    split at h1
    · rename_i n x hd
      simp only [Prod.mk.injEq, Option.some.injEq] at h1
      obtain ⟨rfl, rfl⟩ := h1
      unfold rText decB encB
      rw [show p ++ (encI v.length ++ v) ++ q = p ++ encI v.length ++ (v ++ q) by simp only [List.append_assoc], hd]
      dsimp only
      rw [if_neg (by simp only [List.length_append]; omega)]
      have hdrop : ((p ++ encI v.length ++ (v ++ q)).drop (((p.length + (encI (v.length : Int)).length : Nat) : Int)).toNat).take ((v.length : Nat) : Int).toNat = v := by
        rw [Int.toNat_natCast, Int.toNat_natCast, ← List.length_append, List.drop_left, List.take_left]
      rw [hdrop]
      simp only [List.length_append]
      exact congrArg (Prod.mk (some v)) (by omega)
    · cases h1
  · unfold rText at h
    split at h
    · rename_i v' x' hd
      simp only [Prod.mk.injEq, Option.some.injEq] at h
      obtain ⟨rfl, rfl⟩ := h
      unfold decB at hd
      split at hd
      · rename_i n y hn
        split at hd
        · cases hd
        · rename_i hc
          simp only [Option.some.injEq, Prod.mk.injEq] at hd
          obtain ⟨rfl, rfl⟩ := hd
          obtain ⟨o1, p, q, g1, g2, g3⟩ := cn_num.back l a n y hl ha (by unfold rNum; rw [hn])
          obtain ⟨_, _, h0, hm⟩ := encI_five o1
          subst g1 g2 g3
          simp only [List.length_append] at hc
          rw [Int.toNat_natCast, ← List.length_append, List.drop_left]
          have hlen : ((q.take n.toNat).length : Int) = n := by rw [List.length_take]; omega
          refine ⟨?_, p, q.drop n.toNat, ?_, rfl, ?_⟩
          · unfold okTx; omega
          · unfold encB
            rw [hlen]
            simp only [List.append_assoc, List.take_append_drop]
          · unfold encB
            rw [hlen]
            simp only [List.length_append]
            omega
      · cases hd
    · cases h

/-! ### Lists -/
def eMany {α : Type} (w : α → List Int) (vs : List α) : List Int := encI vs.length ++ (vs.map w).flatten
def okMany {α : Type} (ok : α → Prop) (vs : List α) : Prop := vs.length ≤ 64 ∧ ∀ v ∈ vs, ok v
theorem cn_list {α : Type} {r : List Int → RM α} {w : α → List Int} {ok : α → Prop} (h : Cn r w ok) : ∀ n, Cn (fun l => rList (r l) n) (fun vs => (vs.map w).flatten) (fun vs => vs.length = n ∧ ∀ v ∈ vs, ok v)
  | 0 => by
    refine ⟨fun p v q ⟨h1, _⟩ => ?_, fun l a v x _ ha h => ?_⟩
    · obtain rfl : v = [] := List.eq_nil_of_length_eq_zero h1
      simp [rList, RM.pure]
    · simp only [rList, RM.pure, Prod.mk.injEq, Option.some.injEq] at h
      obtain ⟨rfl, rfl⟩ := h
      exact ⟨⟨rfl, fun v hv => by cases hv⟩, l.take a, l.drop a, by simp, by simp; omega, by simp; omega⟩
  | n + 1 => by
    have ih := cn_list h n
    refine ⟨fun p v q ⟨h1, h2⟩ => ?_, fun l a v x hl ha e => ?_⟩
    · cases v with
      | nil => cases h1
      | cons y ys =>
        have e1 := h.read p y ((ys.map w).flatten ++ q) (h2 y List.mem_cons_self)
        have e2 := ih.read (p ++ w y) ys q ⟨by simpa using h1, fun v hv => h2 v (List.mem_cons_of_mem _ hv)⟩
        simp only [List.map_cons, List.flatten_cons, List.append_assoc, List.length_append] at e1 e2 ⊢
        simp only [rList, RM.bind, RM.pure, e1, e2, Nat.add_assoc]
    · simp only [rList, RM.bind] at e
      split at e
      · rename_i y x1 e1
        obtain ⟨o1, p, q, rfl, rfl, rfl⟩ := h.back l a y x1 hl ha e1
        split at e
        · rename_i ys x2 e2
          simp only [RM.pure, Prod.mk.injEq, Option.some.injEq] at e
          obtain ⟨rfl, rfl⟩ := e
          obtain ⟨⟨k1, k2⟩, p2, q2, g1, g2, rfl⟩ := ih.back _ _ ys x2 hl (by simp) e2
          rw [List.append_assoc p2] at g1
          obtain ⟨rfl, rfl⟩ := pre_eq g1 (by rw [List.length_append]; exact g2)
          refine ⟨⟨by simp [k1], fun v hv => ?_⟩, p, q2, by simp only [List.map_cons, List.flatten_cons, List.append_assoc], rfl, ?_⟩
          · rcases List.mem_cons.1 hv with rfl | hv
            · exact o1
            · exact k2 v hv
          · simp only [List.map_cons, List.flatten_cons, List.length_append]; omega
        · cases e
      · cases e
theorem cn_many {α : Type} {r : List Int → RM α} {w : α → List Int} {ok : α → Prop} (h : Cn r w ok) : Cn (fun l => rMany l (r l)) (eMany w) (okMany ok) := by
  refine ⟨fun p v q ⟨h1, h2⟩ => ?_, fun l a v x hl ha e => ?_⟩
  · have hok : okI v.length = true := by unfold okI; simp only [Bool.and_eq_true, decide_eq_true_eq]; omega
    have e1 := cn_num.read p v.length ((v.map w).flatten ++ q) hok
    have e2 := (cn_list h v.length).read (p ++ encI v.length) v q ⟨rfl, h2⟩
    unfold eMany rMany RM.bind
    simp only [List.append_assoc, List.length_append] at e1 e2 ⊢
    rw [e1]
    dsimp only
    rw [if_neg (by omega), Int.toNat_natCast, e2, Nat.add_assoc]
  · unfold rMany RM.bind at e
    split at e
    · rename_i n x1 e1
      obtain ⟨o1, p, q, rfl, rfl, rfl⟩ := cn_num.back l a n x1 hl ha e1
      obtain ⟨_, _, h0, hm⟩ := encI_five o1
      dsimp only at e
      split at e
      · cases e
      · rename_i hn
        obtain ⟨⟨k1, k2⟩, p2, q2, g1, g2, rfl⟩ := (cn_list h n.toNat).back _ _ v x hl (by simp) e
        rw [List.append_assoc p2] at g1
        obtain ⟨rfl, rfl⟩ := pre_eq g1 (by rw [List.length_append]; exact g2)
        have hnn : n = (v.length : Int) := by omega
        subst hnn
        refine ⟨⟨by omega, k2⟩, p, q2, by unfold eMany; simp only [List.append_assoc], rfl, by unfold eMany; simp only [List.length_append]; omega⟩
    · cases e

/-! ### Structs -/
def eBal (b : BalV) : List Int := encI b.view ++ (encI b.turn ++ [])
def okBal (b : BalV) : Prop := True ∧ okI b.view = true ∧ okI b.turn = true ∧ True
theorem cn_bal : Cn rBal eBal okBal :=
  cn_num.bind (fun c : BalV => c.view) (φ := fun _ => True) fun v1 => cn_num.bind (fun c : BalV => c.turn) (φ := fun c => True ∧ c.view = v1) fun v2 => Cn.pure fun c => by
    obtain ⟨a, b⟩ := c; simp
def eReq (r : RqV) : List Int := encI r.client ++ (encI r.stamp ++ (encB r.op ++ (encB r.sig ++ [])))
def okRq (r : RqV) : Prop := True ∧ okI r.client = true ∧ okI r.stamp = true ∧ okTx r.op ∧ okTx r.sig ∧ True
theorem cn_req : Cn rReq eReq okRq :=
  cn_num.bind (fun c : RqV => c.client) (φ := fun _ => True) fun v1 => cn_num.bind (fun c : RqV => c.stamp) (φ := fun c => True ∧ c.client = v1) fun v2 =>
    cn_text.bind (fun c : RqV => c.op) (φ := fun c => (True ∧ c.client = v1) ∧ c.stamp = v2) fun v3 => cn_text.bind (fun c : RqV => c.sig) (φ := fun c => ((True ∧ c.client = v1) ∧ c.stamp = v2) ∧ c.op = v3) fun v4 => Cn.pure fun c => by
    obtain ⟨a, b, d, e⟩ := c; simp [and_assoc]
def eVote (v : VtV) : List Int := encI v.signer ++ (encB v.sig ++ [])
def okVt (v : VtV) : Prop := True ∧ okI v.signer = true ∧ okTx v.sig ∧ True
theorem cn_vote : Cn rVote eVote okVt :=
  cn_num.bind (fun c : VtV => c.signer) (φ := fun _ => True) fun v1 => cn_text.bind (fun c : VtV => c.sig) (φ := fun c => True ∧ c.signer = v1) fun v2 => Cn.pure fun c => by
    obtain ⟨a, b⟩ := c; simp
theorem cn_votes : Cn (fun l => rMany l (rVote l)) (eMany eVote) (okMany okVt) := cn_many cn_vote
def ePrep (p : PrV) : List Int := encI p.slot ++ (eBal p.bal ++ (eReq p.req ++ (eMany eVote p.cert ++ [])))
def okPp (p : PrV) : Prop := True ∧ okI p.slot = true ∧ okBal p.bal ∧ okRq p.req ∧ okMany okVt p.cert ∧ True
theorem cn_prep : Cn rPrep ePrep okPp :=
  cn_num.bind (fun c : PrV => c.slot) (φ := fun _ => True) fun v1 => cn_bal.bind (fun c : PrV => c.bal) (φ := fun c => True ∧ c.slot = v1) fun v2 =>
    cn_req.bind (fun c : PrV => c.req) (φ := fun c => (True ∧ c.slot = v1) ∧ c.bal = v2) fun v3 => cn_votes.bind (fun c : PrV => c.cert) (φ := fun c => ((True ∧ c.slot = v1) ∧ c.bal = v2) ∧ c.req = v3) fun v4 => Cn.pure fun c => by
    obtain ⟨a, b, d, e⟩ := c; simp [and_assoc]
def eReport (r : RpV) : List Int := eBal r.bal ++ (encI r.replica ++ (encI r.low ++ (encB r.digest ++ (eMany eVote r.stable ++ (eMany ePrep r.preps ++ (encB r.sig ++ []))))))
def okRpt (r : RpV) : Prop := True ∧ okBal r.bal ∧ okI r.replica = true ∧ okI r.low = true ∧ okTx r.digest ∧ okMany okVt r.stable ∧ okMany okPp r.preps ∧ okTx r.sig ∧ True
theorem cn_report : Cn rReport eReport okRpt :=
  cn_bal.bind (fun c : RpV => c.bal) (φ := fun _ => True) fun v1 => cn_num.bind (fun c : RpV => c.replica) (φ := fun c => True ∧ c.bal = v1) fun v2 =>
    cn_num.bind (fun c : RpV => c.low) (φ := fun c => (True ∧ c.bal = v1) ∧ c.replica = v2) fun v3 => cn_text.bind (fun c : RpV => c.digest) (φ := fun c => ((True ∧ c.bal = v1) ∧ c.replica = v2) ∧ c.low = v3) fun v4 =>
    cn_votes.bind (fun c : RpV => c.stable) (φ := fun c => (((True ∧ c.bal = v1) ∧ c.replica = v2) ∧ c.low = v3) ∧ c.digest = v4) fun v5 =>
    (cn_many cn_prep).bind (fun c : RpV => c.preps) (φ := fun c => ((((True ∧ c.bal = v1) ∧ c.replica = v2) ∧ c.low = v3) ∧ c.digest = v4) ∧ c.stable = v5) fun v6 =>
    cn_text.bind (fun c : RpV => c.sig) (φ := fun c => (((((True ∧ c.bal = v1) ∧ c.replica = v2) ∧ c.low = v3) ∧ c.digest = v4) ∧ c.stable = v5) ∧ c.preps = v6) fun v7 => Cn.pure fun c => by
    obtain ⟨a, b, d, e, f, g, h⟩ := c; simp [and_assoc]

/-! ### Fields -/
theorem Cn.map {α γ : Type} {r : List Int → RM α} {w : α → List Int} {ok : α → Prop} (h : Cn r w ok) (set : α → γ) (get : γ → α) (hgs : ∀ v, get (set v) = v) :
    Cn (fun l => RM.map set (r l)) (fun c => w (get c)) (fun c => ok (get c) ∧ c = set (get c)) := by
  refine ⟨fun p v q ⟨h1, h2⟩ => ?_, fun l a v x hl ha e => ?_⟩
  · unfold RM.map
    rw [h.read p (get v) q h1]
    dsimp only
    rw [← h2]
  · unfold RM.map at e
    split at e
    · rename_i y x1 e1
      simp only [Prod.mk.injEq, Option.some.injEq] at e
      obtain ⟨rfl, rfl⟩ := e
      obtain ⟨o1, p, q, g1, g2, g3⟩ := h.back l a y x1 hl ha e1
      rw [hgs]
      exact ⟨⟨o1, rfl⟩, p, q, g1, g2, g3⟩
    · cases e
def eField (m : MsV) : Nat → List Int
  | 0 => eBal m.bal
  | 1 => encI m.slot
  | 2 => encI m.from_
  | 3 => encI m.to
  | 4 => encI m.index
  | 5 => encI m.count
  | 6 => eReq m.req
  | 7 => eReq m.other
  | 8 => encB m.data
  | 9 => encB m.sig
  | 10 => eMany eVote m.cert
  | 11 => eMany eVote m.votes
  | 12 => eMany encI m.order
  | 13 => eMany eReq m.picks
  | 14 => eMany eReport m.reports
  | _ => []
def okField (m : MsV) : Nat → Prop
  | 0 => okBal m.bal
  | 1 => okI m.slot = true
  | 2 => okI m.from_ = true
  | 3 => okI m.to = true
  | 4 => okI m.index = true
  | 5 => okI m.count = true
  | 6 => okRq m.req
  | 7 => okRq m.other
  | 8 => okTx m.data
  | 9 => okTx m.sig
  | 10 => okMany okVt m.cert
  | 11 => okMany okVt m.votes
  | 12 => okMany (fun n => okI n = true) m.order
  | 13 => okMany okRq m.picks
  | 14 => okMany okRpt m.reports
  | _ => True
/-- Field i taken from c. -/
def upd (m c : MsV) : Nat → MsV
  | 0 => { m with bal := c.bal }
  | 1 => { m with slot := c.slot }
  | 2 => { m with from_ := c.from_ }
  | 3 => { m with to := c.to }
  | 4 => { m with index := c.index }
  | 5 => { m with count := c.count }
  | 6 => { m with req := c.req }
  | 7 => { m with other := c.other }
  | 8 => { m with data := c.data }
  | 9 => { m with sig := c.sig }
  | 10 => { m with cert := c.cert }
  | 11 => { m with votes := c.votes }
  | 12 => { m with order := c.order }
  | 13 => { m with picks := c.picks }
  | 14 => { m with reports := c.reports }
  | _ => m
theorem cn_field (m : MsV) : ∀ i : Nat, i < 15 → Cn (fun l => rField l m i) (fun c => eField c i) (fun c => okField c i ∧ c = upd m c i)
  | 0, _ => cn_bal.map (fun v : BalV => ({ m with bal := v } : MsV)) (fun c : MsV => c.bal) (fun _ => rfl)
  | 1, _ => cn_num.map (fun v : Int => ({ m with slot := v } : MsV)) (fun c : MsV => c.slot) (fun _ => rfl)
  | 2, _ => cn_num.map (fun v : Int => ({ m with from_ := v } : MsV)) (fun c : MsV => c.from_) (fun _ => rfl)
  | 3, _ => cn_num.map (fun v : Int => ({ m with to := v } : MsV)) (fun c : MsV => c.to) (fun _ => rfl)
  | 4, _ => cn_num.map (fun v : Int => ({ m with index := v } : MsV)) (fun c : MsV => c.index) (fun _ => rfl)
  | 5, _ => cn_num.map (fun v : Int => ({ m with count := v } : MsV)) (fun c : MsV => c.count) (fun _ => rfl)
  | 6, _ => cn_req.map (fun v : RqV => ({ m with req := v } : MsV)) (fun c : MsV => c.req) (fun _ => rfl)
  | 7, _ => cn_req.map (fun v : RqV => ({ m with other := v } : MsV)) (fun c : MsV => c.other) (fun _ => rfl)
  | 8, _ => cn_text.map (fun v : List Int => ({ m with data := v } : MsV)) (fun c : MsV => c.data) (fun _ => rfl)
  | 9, _ => cn_text.map (fun v : List Int => ({ m with sig := v } : MsV)) (fun c : MsV => c.sig) (fun _ => rfl)
  | 10, _ => cn_votes.map (fun v : List VtV => ({ m with cert := v } : MsV)) (fun c : MsV => c.cert) (fun _ => rfl)
  | 11, _ => cn_votes.map (fun v : List VtV => ({ m with votes := v } : MsV)) (fun c : MsV => c.votes) (fun _ => rfl)
  | 12, _ => (cn_many cn_num).map (fun v : List Int => ({ m with order := v } : MsV)) (fun c : MsV => c.order) (fun _ => rfl)
  | 13, _ => (cn_many cn_req).map (fun v : List RqV => ({ m with picks := v } : MsV)) (fun c : MsV => c.picks) (fun _ => rfl)
  | 14, _ => (cn_many cn_report).map (fun v : List RpV => ({ m with reports := v } : MsV)) (fun c : MsV => c.reports) (fun _ => rfl)
  | i + 15, h => absurd h (by omega)

/-- All fields of a kind from the i-th on. -/
def eLoop (c : MsV) (k : Int) : Nat → Nat → List Int
  | 0, _ => []
  | n + 1, i => cond (hasF k i) (eField c i) [] ++ eLoop c k n (i + 1)
/-- c has m's fields before the i-th; the others are all right, or as m's. -/
def okLoop (c : MsV) (k : Int) : Nat → Nat → MsV → Prop
  | 0, _, m => c = m
  | n + 1, i, m => (hasF k i = true → okField c i) ∧ okLoop c k n (i + 1) (cond (hasF k i) (upd m c i) m)
theorem upd_idem (m c : MsV) (i : Nat) : upd m (upd m c i) i = upd m c i := by
  unfold upd
  split <;> rfl
theorem eField_upd (m c : MsV) (i : Nat) (h : i < 15) : eField (upd m c i) i = eField c i := by
  match i, h with
  | 0, _ | 1, _ | 2, _ | 3, _ | 4, _ | 5, _ | 6, _ | 7, _ | 8, _ | 9, _ | 10, _ | 11, _ | 12, _ | 13, _ | 14, _ => rfl
theorem okField_upd (m c : MsV) (i : Nat) (h : i < 15) : okField (upd m c i) i ↔ okField c i := by
  match i, h with
  | 0, _ | 1, _ | 2, _ | 3, _ | 4, _ | 5, _ | 6, _ | 7, _ | 8, _ | 9, _ | 10, _ | 11, _ | 12, _ | 13, _ | 14, _ => exact Iff.rfl

theorem upd_skip (c m d : MsV) (i j : Nat) (hi : i < 15) (hj : j < 15) (h : j ≠ i) : upd c (upd m d i) j = upd c m j := by
  match j, hj with
  | 0, _ | 1, _ | 2, _ | 3, _ | 4, _ | 5, _ | 6, _ | 7, _ | 8, _ | 9, _ | 10, _ | 11, _ | 12, _ | 13, _ | 14, _ =>
    match i, hi with
    | 0, _ | 1, _ | 2, _ | 3, _ | 4, _ | 5, _ | 6, _ | 7, _ | 8, _ | 9, _ | 10, _ | 11, _ | 12, _ | 13, _ | 14, _ => first | rfl | exact absurd rfl h

theorem upd_back (c m d : MsV) (i : Nat) (hi : i < 15) (h : upd c (upd m d i) i = c) : upd m c i = upd m d i := by
  match i, hi with
  | 0, _ | 1, _ | 2, _ | 3, _ | 4, _ | 5, _ | 6, _ | 7, _ | 8, _ | 9, _ | 10, _ | 11, _ | 12, _ | 13, _ | 14, _ => rw [← h]; rfl
theorem loop_read (k : Int) : ∀ (n i : Nat) (m c : MsV), i + n ≤ 15 → okLoop c k n i m → ∀ p q, rLoop (p ++ eLoop c k n i ++ q) k n i m (p.length : Nat) = (some c, ((p.length + (eLoop c k n i).length : Nat) : Int))
  | 0, i, m, c, _, h, p, q => by
    have h : c = m := h
    subst h
    simp [rLoop, RM.pure, eLoop]
  | n + 1, i, m, c, hi, h, p, q => by
    obtain ⟨h1, h2⟩ := h
    have ih := loop_read k n (i + 1) _ c (by omega) h2
    cases hk : hasF k i with
    | false =>
      rw [hk] at h2 ih
      simp only [rLoop, eLoop, hk, _root_.cond_false, RM.bind, RM.pure, List.nil_append]
      exact ih p q
    | true =>
      rw [hk] at h2 ih
      have e1 := (cn_field m i (by omega)).read p (upd m c i) (eLoop c k n (i + 1) ++ q) ⟨(okField_upd m c i (by omega)).2 (h1 hk), (upd_idem m c i).symm⟩
      simp only [eField_upd m c i (by omega)] at e1
      have e2 := ih (p ++ eField c i) q
      simp only [rLoop, eLoop, hk, _root_.cond_true, RM.bind, List.append_assoc, List.length_append] at e1 e2 ⊢
      rw [e1]
      dsimp only
      rw [e2, Nat.add_assoc]
/-- What later fields leave alone. -/
theorem loop_back (k : Int) : ∀ (n i : Nat) (m c : MsV) (l : List Int) (a : Nat) (x : Int), i + n ≤ 15 → okB l → a ≤ l.length → rLoop l k n i m a = (some c, x) →
    okLoop c k n i m ∧ (∀ j, j < i → upd c m j = c) ∧ ∃ p q, l = p ++ eLoop c k n i ++ q ∧ a = p.length ∧ x = ((p.length + (eLoop c k n i).length : Nat) : Int)
  | 0, i, m, c, l, a, x, _, hl, ha, h => by
    simp only [rLoop, RM.pure, Prod.mk.injEq, Option.some.injEq] at h
    obtain ⟨rfl, rfl⟩ := h
    refine ⟨rfl, fun j _ => by unfold upd; split <;> rfl, l.take a, l.drop a, by simp [eLoop], by simp; omega, by simp [eLoop]; omega⟩
  | n + 1, i, m, c, l, a, x, hi, hl, ha, h => by
    cases hk : hasF k i with
    | false =>
      simp only [rLoop, hk, _root_.cond_false, RM.bind, RM.pure] at h
      obtain ⟨k1, k2, p, q, g1, g2, g3⟩ := loop_back k n (i + 1) m c l a x (by omega) hl ha h
      refine ⟨⟨fun e => (by rw [hk] at e; cases e), by rw [hk]; exact k1⟩, fun j hj => k2 j (by omega), p, q, by simpa only [eLoop, hk, _root_.cond_false, List.nil_append] using g1, g2, by simpa only [eLoop, hk, _root_.cond_false, List.nil_append] using g3⟩
    | true =>
      simp only [rLoop, hk, _root_.cond_true, RM.bind] at h
      split at h
      · rename_i m' x1 e1
        obtain ⟨⟨o1, o2⟩, p, q, rfl, rfl, rfl⟩ := (cn_field m i (by omega)).back l a m' x1 hl ha e1
        obtain ⟨k1, k2, p2, q2, g1, g2, rfl⟩ := loop_back k n (i + 1) m' c _ _ x (by omega) hl (by simp) h
        rw [List.append_assoc p2] at g1
        obtain ⟨rfl, rfl⟩ := pre_eq g1 (by rw [List.length_append]; exact g2)
        have hc : upd c m' i = c := k2 i (by omega)
        have hf : eField c i = eField m' i := by rw [← hc]; exact eField_upd c m' i (by omega)
        have ho : okField c i := by rw [← hc]; exact (okField_upd c m' i (by omega)).2 o1
        have hm : upd m c i = m' := by
          rw [o2] at hc ⊢
          exact upd_back c m m' i (by omega) hc
        refine ⟨⟨fun _ => ho, by rw [hk]; show okLoop c k n (i + 1) (upd m c i); rw [hm]; exact k1⟩, fun j hj => ?_, p, q2, ?_, rfl, ?_⟩
        · have := k2 j (by omega)
          rw [o2] at this
          rw [upd_skip c m m' i j (by omega) (by omega) (by omega)] at this
          exact this
        · simp only [eLoop, hk, _root_.cond_true, hf, List.append_assoc]
        · simp only [eLoop, hk, _root_.cond_true, hf, List.length_append]; omega
      · cases h
end Go.Abs

/-
Plain laws: a message's bytes are read as the message; bytes that are read are just the bytes that it is written as; cut off, or with more behind, they are no message; no program.
-/
namespace Go.Abs
open Go

/-! ### Reading whole messages -/
def eMsg (m : MsV) : List Int := encI m.kind ++ eLoop m m.kind 15 0
def z0 (k : Int) : MsV := { zM with kind := k }
def okMsg (m : MsV) : Prop := okI m.kind = true ∧ okLoop m m.kind 15 0 (z0 m.kind)
theorem upd_kind (m c : MsV) (i : Nat) : (upd m c i).kind = m.kind := by unfold upd; split <;> rfl
theorem okLoop_kind (c : MsV) (k : Int) : ∀ (n i : Nat) (m : MsV), okLoop c k n i m → c.kind = m.kind
  | 0, i, m, h => by have h : c = m := h; rw [h]
  | n + 1, i, m, h => by
    rw [okLoop_kind c k n (i + 1) _ h.2]
    cases hasF k i with
    | true => exact upd_kind m c i
    | false => rfl
theorem decM_app {m : MsV} (h : okMsg m) (q : List Int) : decM (eMsg m ++ q) = if ((eMsg m ++ q).length : Int) > 1048576 then (zM, 53) else if fieldsL m.kind = [] ∨ ¬ q = [] then (zM, 51) else (m, 0) := by
  have e1 := cn_num.read [] m.kind (eLoop m m.kind 15 0 ++ q) h.1
  have e2 := loop_read m.kind 15 0 (z0 m.kind) m (Nat.le_refl _) h.2 (encI m.kind) q
  simp only [List.nil_append, List.length_nil, Nat.zero_add] at e1
  unfold decM
  split
  · rfl
  unfold eMsg at *
  rw [show ((0 : Nat) : Int) = 0 from rfl] at e1
  rw [List.append_assoc] at e2 ⊢
  rw [e1]
  dsimp only
  unfold z0 at e2
  rw [e2]
  dsimp only
  congr 1
  simp only [List.length_append, eq_iff_iff]
  refine or_congr Iff.rfl (not_congr ⟨fun e => ?_, fun e => ?_⟩)
  · exact List.eq_nil_of_length_eq_zero (by omega)
  · rw [e]; simp
theorem decM_enc {m : MsV} (h : okMsg m) (hf : fieldsL m.kind ≠ []) (hl : (eMsg m).length ≤ 1048576) : decM (eMsg m) = (m, 0) := by
  have := decM_app h []
  rw [List.append_nil] at this
  rw [this, if_neg (by omega), if_neg (by rintro (h | h); exact hf h; exact h rfl)]
theorem decM_of {l : List Int} (hb : okB l) : ((l.length : Int) > 1048576 ∧ decM l = (zM, 53)) ∨ (l.length ≤ 1048576 ∧ decM l = (zM, 51)) ∨
    ∃ m, decM l = (m, 0) ∧ okMsg m ∧ fieldsL m.kind ≠ [] ∧ l = eMsg m ∧ l.length ≤ 1048576 := by
  by_cases hbig : (l.length : Int) > 1048576
  · exact .inl ⟨hbig, by unfold decM; rw [if_pos hbig]⟩
  right
  have hle : l.length ≤ 1048576 := by omega
  unfold decM
  rw [if_neg hbig]
  rcases h1 : rNum l 0 with ⟨_ | k, a1⟩
  · exact .inl ⟨hle, rfl⟩
  dsimp only
  obtain ⟨o1, p, q, rfl, hp, rfl⟩ := cn_num.back l 0 k a1 hb (Nat.zero_le _) h1
  obtain rfl : p = [] := List.eq_nil_of_length_eq_zero hp.symm
  rcases h2 : rLoop ([] ++ encI k ++ q) k 15 0 { zM with kind := k } ((([] : List Int).length + (encI k).length : Nat) : Int) with ⟨_ | m, a2⟩
  · exact .inl ⟨hle, rfl⟩
  dsimp only
  obtain ⟨k1, _, p2, q2, g1, g2, rfl⟩ := loop_back k 15 0 _ m _ _ a2 (Nat.le_refl _) hb (by simp) h2
  have hk : m.kind = k := okLoop_kind m k 15 0 _ k1
  rw [List.append_assoc p2] at g1
  obtain ⟨rfl, rfl⟩ := pre_eq g1 (by rw [List.length_append]; exact g2)
  split
  · exact .inl ⟨hle, rfl⟩
  · rename_i hc
    rw [not_or] at hc
    obtain ⟨c1, c2⟩ := hc
    simp only [Classical.not_not, List.nil_append, List.length_append] at c2
    obtain rfl : q2 = [] := List.eq_nil_of_length_eq_zero (by omega)
    subst hk
    refine .inr ⟨m, rfl, ⟨o1, k1⟩, c1, by unfold eMsg; simp, hle⟩
theorem decM_cut {m : MsV} (hb : okB (eMsg m)) (h : okMsg m) (hf : fieldsL m.kind ≠ []) (hl : (eMsg m).length ≤ 1048576) {n : Nat} (hn : n < (eMsg m).length) : decM ((eMsg m).take n) = (zM, 51) := by
  rcases decM_of (l := (eMsg m).take n) (fun b hbb => hb b (List.mem_of_mem_take hbb)) with ⟨h1, _⟩ | ⟨_, h2⟩ | ⟨m', h1, h2, h3, h4, h5⟩
  · rw [List.length_take] at h1; omega
  · exact h2
  · have e := decM_app h2 ((eMsg m).drop n)
    rw [← h4, List.take_append_drop, decM_enc h hf hl, if_neg (by omega), if_pos (.inr (fun e => by
      have := congrArg List.length e
      rw [List.length_drop, List.length_nil] at this
      omega))] at e
    cases e
theorem decM_more {m : MsV} (h : okMsg m) {q : List Int} (hq : q ≠ []) : decM (eMsg m ++ q) = (zM, 51) ∨ (((eMsg m).length + q.length : Nat) : Int) > 1048576 ∧ decM (eMsg m ++ q) = (zM, 53) := by
  rw [decM_app h q]
  split
  · rename_i h1
    rw [List.length_append] at h1
    exact .inr ⟨h1, rfl⟩
  · rw [if_pos (.inr hq)]
    exact .inl rfl

/-! ### Writing -/
structure Wr {α : Type} (w : α → WS → WS) (e : α → List Int) (ok : α → Prop) : Prop where
  good : ∀ v (s : WS), s.2 = false → ok v → w v s = (s.1 ++ e v, false)
  bad : ∀ v (s : WS), (w v s).2 = false → s.2 = false ∧ ok v
theorem Wr.nil {α : Type} : Wr (fun (_ : α) s => s) (fun _ => []) (fun _ => True) :=
  ⟨fun v s h _ => by rw [List.append_nil, ← h], fun v s h => ⟨h, trivial⟩⟩
theorem Wr.cons {α γ : Type} {w1 : α → WS → WS} {e1 : α → List Int} {ok1 : α → Prop} (h1 : Wr w1 e1 ok1) (get : γ → α) {w2 : γ → WS → WS} {e2 : γ → List Int} {ok2 : γ → Prop} (h2 : Wr w2 e2 ok2) :
    Wr (fun c s => w2 c (w1 (get c) s)) (fun c => e1 (get c) ++ e2 c) (fun c => ok1 (get c) ∧ ok2 c) := by
  refine ⟨fun v s h ⟨o1, o2⟩ => ?_, fun v s h => ?_⟩
  · rw [h1.good (get v) s h o1, h2.good v _ rfl o2, List.append_assoc]
  · obtain ⟨k1, k2⟩ := h2.bad v _ h
    obtain ⟨k3, k4⟩ := h1.bad _ s k1
    exact ⟨k3, k4, k2⟩
theorem Wr.tt {α : Type} {w : α → WS → WS} {e : α → List Int} {ok : α → Prop} (h : Wr w e ok) : Wr w e (fun v => True ∧ ok v) :=
  ⟨fun v s h1 h2 => h.good v s h1 h2.2, fun v s h1 => let ⟨k1, k2⟩ := h.bad v s h1; ⟨k1, trivial, k2⟩⟩
theorem wr_num : Wr wNum encI (fun n => okI n = true) := by
  refine ⟨fun v s h o => ?_, fun v s h => ?_⟩
  · unfold wNum; rw [o, h]; rfl
  · unfold wNum at h
    simp only [Bool.or_eq_false_iff, Bool.not_eq_false'] at h
    exact h
theorem wr_text : Wr wText encB okTx := by
  refine ⟨fun v s h o => ?_, fun v s h => ?_⟩
  · unfold wText
    unfold okTx at o
    rw [h, decide_eq_false (by omega)]
    rfl
  · unfold wText at h
    simp only [Bool.or_eq_false_iff, decide_eq_false_iff_not] at h
    exact ⟨h.1, by unfold okTx; omega⟩
theorem wSeq_good {α : Type} {w : α → WS → WS} {e : α → List Int} {ok : α → Prop} (h : Wr w e ok) : ∀ (l : List α) (s : WS), s.2 = false → (∀ v ∈ l, ok v) → wSeq (l.map w) s = (s.1 ++ (l.map e).flatten, false)
  | [], s, hs, _ => by simp [wSeq, ← hs]
  | x :: l, s, hs, ho => by
    have h1 := h.good x s hs (ho x List.mem_cons_self)
    have h2 := wSeq_good h l (w x s) (by rw [h1]) (fun v hv => ho v (List.mem_cons_of_mem _ hv))
    show wSeq (l.map w) (w x s) = _
    rw [h2, h1]
    simp only [List.map_cons, List.flatten_cons, List.append_assoc]
theorem wSeq_bad {α : Type} {w : α → WS → WS} {e : α → List Int} {ok : α → Prop} (h : Wr w e ok) : ∀ (l : List α) (s : WS), (wSeq (l.map w) s).2 = false → s.2 = false ∧ ∀ v ∈ l, ok v
  | [], s, hs => ⟨hs, fun v hv => by cases hv⟩
  | x :: l, s, hs => by
    obtain ⟨k1, k2⟩ := wSeq_bad h l (w x s) hs
    obtain ⟨k3, k4⟩ := h.bad x s k1
    refine ⟨k3, fun v hv => ?_⟩
    rcases List.mem_cons.1 hv with rfl | hv
    · exact k4
    · exact k2 v hv
theorem wr_list {α : Type} {w : α → WS → WS} {e : α → List Int} {ok : α → Prop} (h : Wr w e ok) : Wr (fun l => wList (l.map w)) (eMany e) (okMany ok) := by
  refine ⟨fun v s hs ⟨o1, o2⟩ => ?_, fun v s hs => ?_⟩
  · have hok : okI v.length = true := by unfold okI; simp only [Bool.and_eq_true, decide_eq_true_eq]; omega
    have h1 := wr_num.good (v.length : Int) (s.1, s.2 || decide ((v.length : Int) > 64)) (by rw [hs, decide_eq_false (by omega)]; rfl) hok
    unfold wList
    dsimp only
    rw [List.length_map, h1]
    dsimp only
    rw [_root_.cond_false, wSeq_good h v _ rfl o2]
    unfold eMany
    rw [List.append_assoc]
  · unfold wList at hs
    dsimp only at hs
    rw [List.length_map] at hs
    cases hb : (wNum (v.length : Int) (s.1, s.2 || decide ((v.length : Int) > 64))).2 with
    | true => rw [hb, _root_.cond_true, hb] at hs; cases hs
    | false =>
      rw [hb, _root_.cond_false] at hs
      obtain ⟨k1, _⟩ := wr_num.bad _ _ hb
      simp only [Bool.or_eq_false_iff, decide_eq_false_iff_not] at k1
      exact ⟨k1.1, by omega, (wSeq_bad h v _ hs).2⟩
theorem wr_bal : Wr wBal eBal okBal := (wr_num.cons (fun c : BalV => c.view) (wr_num.cons (fun c : BalV => c.turn) Wr.nil)).tt
theorem wr_req : Wr wReq eReq okRq := (wr_num.cons (fun c : RqV => c.client) (wr_num.cons (fun c : RqV => c.stamp) (wr_text.cons (fun c : RqV => c.op) (wr_text.cons (fun c : RqV => c.sig) Wr.nil)))).tt
theorem wr_vote : Wr wVote eVote okVt := (wr_num.cons (fun c : VtV => c.signer) (wr_text.cons (fun c : VtV => c.sig) Wr.nil)).tt
theorem wr_votes : Wr wVotes (eMany eVote) (okMany okVt) := wr_list wr_vote
theorem wr_prep : Wr wPrep ePrep okPp := (wr_num.cons (fun c : PrV => c.slot) (wr_bal.cons (fun c : PrV => c.bal) (wr_req.cons (fun c : PrV => c.req) (wr_votes.cons (fun c : PrV => c.cert) Wr.nil)))).tt
theorem wr_report : Wr wReport eReport okRpt :=
  (wr_bal.cons (fun c : RpV => c.bal) (wr_num.cons (fun c : RpV => c.replica) (wr_num.cons (fun c : RpV => c.low) (wr_text.cons (fun c : RpV => c.digest) (wr_votes.cons (fun c : RpV => c.stable) ((wr_list wr_prep).cons (fun c : RpV => c.preps) (wr_text.cons (fun c : RpV => c.sig) Wr.nil))))))).tt
theorem Wr.at {α γ : Type} {w : α → WS → WS} {e : α → List Int} {ok : α → Prop} (h : Wr w e ok) (get : γ → α) : Wr (fun c => w (get c)) (fun c => e (get c)) (fun c => ok (get c)) :=
  ⟨fun v s => h.good (get v) s, fun v s => h.bad (get v) s⟩
theorem wr_field : ∀ i : Nat, i < 15 → Wr (fun m s => wField m i s) (fun m => eField m i) (fun m => okField m i)
  | 0, _ => wr_bal.at (fun m : MsV => m.bal)
  | 1, _ => wr_num.at (fun m : MsV => m.slot)
  | 2, _ => wr_num.at (fun m : MsV => m.from_)
  | 3, _ => wr_num.at (fun m : MsV => m.to)
  | 4, _ => wr_num.at (fun m : MsV => m.index)
  | 5, _ => wr_num.at (fun m : MsV => m.count)
  | 6, _ => wr_req.at (fun m : MsV => m.req)
  | 7, _ => wr_req.at (fun m : MsV => m.other)
  | 8, _ => wr_text.at (fun m : MsV => m.data)
  | 9, _ => wr_text.at (fun m : MsV => m.sig)
  | 10, _ => wr_votes.at (fun m : MsV => m.cert)
  | 11, _ => wr_votes.at (fun m : MsV => m.votes)
  | 12, _ => (wr_list wr_num).at (fun m : MsV => m.order)
  | 13, _ => (wr_list wr_req).at (fun m : MsV => m.picks)
  | 14, _ => (wr_list wr_report).at (fun m : MsV => m.reports)
  | i + 15, h => absurd h (by omega)

def eUp (m : MsV) : Nat → List Int
  | 0 => []
  | i + 1 => eUp m i ++ cond (hasF m.kind i) (eField m i) []
theorem eUp_loop (m : MsV) : ∀ (n i : Nat), eUp m i ++ eLoop m m.kind n i = eUp m (i + n)
  | 0, i => by simp [eLoop]
  | n + 1, i => by
    have := eUp_loop m n (i + 1)
    rw [show i + (n + 1) = i + 1 + n by omega, ← this]
    simp only [eLoop, eUp, List.append_assoc]
theorem eUp_all (m : MsV) : eUp m 15 = eLoop m m.kind 15 0 := (eUp_loop m 15 0).symm
theorem encS_good (m : MsV) (h0 : okI m.kind = true) : ∀ i, i ≤ 15 → (∀ j, j < i → hasF m.kind j = true → okField m j) → encS m i = (encI m.kind ++ eUp m i, false)
  | 0, _, _ => by
    show wNum m.kind ([], false) = _
    rw [wr_num.good m.kind ([], false) rfl h0]
    simp [eUp]
  | i + 1, hi, h => by
    have ih := encS_good m h0 i (by omega) (fun j hj => h j (by omega))
    unfold encS eUp
    cases hk : hasF m.kind i with
    | false => simp only [_root_.cond_false, List.append_nil]; exact ih
    | true =>
      simp only [_root_.cond_true]
      rw [ih, (wr_field i (by omega)).good m _ rfl (h i (by omega) hk), List.append_assoc]
theorem encS_bad (m : MsV) : ∀ i, i ≤ 15 → (encS m i).2 = false → okI m.kind = true ∧ ∀ j, j < i → hasF m.kind j = true → okField m j
  | 0, _, h => ⟨(wr_num.bad m.kind ([], false) h).2, fun j hj => absurd hj (Nat.not_lt_zero _)⟩
  | i + 1, hi, h => by
    unfold encS at h
    cases hk : hasF m.kind i with
    | false =>
      rw [hk, _root_.cond_false] at h
      obtain ⟨k1, k2⟩ := encS_bad m i (by omega) h
      refine ⟨k1, fun j hj hjk => ?_⟩
      rcases Nat.lt_succ_iff_lt_or_eq.1 hj with hj | rfl
      · exact k2 j hj hjk
      · rw [hk] at hjk; cases hjk
    | true =>
      rw [hk, _root_.cond_true] at h
      obtain ⟨h1, h2⟩ := (wr_field i (by omega)).bad m _ h
      obtain ⟨k1, k2⟩ := encS_bad m i (by omega) h1
      refine ⟨k1, fun j hj hjk => ?_⟩
      rcases Nat.lt_succ_iff_lt_or_eq.1 hj with hj | rfl
      · exact k2 j hj hjk
      · exact h2

/-! ### Fields that aren't there -/
theorem okZ (k : Int) (i : Nat) (hi : i < 15) : okField (z0 k) i := by
  have h0 : okI 0 = true := rfl
  have hr : okRq zR := ⟨trivial, h0, h0, by simp [okTx, zR], by simp [okTx, zR], trivial⟩
  match i, hi with
  | 0, _ => exact ⟨trivial, h0, h0, trivial⟩
  | 1, _ | 2, _ | 3, _ | 4, _ | 5, _ => exact h0
  | 6, _ | 7, _ => exact hr
  | 8, _ | 9, _ => simp [okField, okTx, z0, zM]
  | 10, _ | 11, _ | 12, _ | 13, _ | 14, _ => exact ⟨by simp [z0, zM], fun v hv => by cases hv⟩
theorem eZ (k : Int) (i : Nat) (hi : i < 15) : (eField (z0 k) i).length ≤ 4 ∧ okB (eField (z0 k) i) ∧ eField (z0 k) i = eField zM i ∧ wField (z0 k) i = wField zM i := by
  have hb : ∀ i : Fin 15, (eField zM i.val).length ≤ 4 ∧ ∀ b ∈ eField zM i.val, 0 ≤ b ∧ b < 256 := by decide
  have he : eField (z0 k) i = eField zM i ∧ wField (z0 k) i = wField zM i := by
    match i, hi with
    | 0, _ | 1, _ | 2, _ | 3, _ | 4, _ | 5, _ | 6, _ | 7, _ | 8, _ | 9, _ | 10, _ | 11, _ | 12, _ | 13, _ | 14, _ => exact ⟨rfl, rfl⟩
  rw [he.1]
  exact ⟨(hb ⟨i, hi⟩).1, (hb ⟨i, hi⟩).2, rfl, he.2⟩
theorem upd_self (m : MsV) (i : Nat) : upd m m i = m := by unfold upd; split <;> rfl
/-- A field that is written as nothing is nothing. -/
theorem empty_zero (m : MsV) (i : Nat) (hi : i < 15) (h : emptyF m i = true) : upd (z0 m.kind) m i = z0 m.kind := by
  unfold emptyF at h
  simp only [Bool.and_eq_true, Bool.not_eq_true', decide_eq_true_eq] at h
  obtain ⟨h1, h2⟩ := h
  have o1 := ((wr_field i hi).bad m _ h1).2
  have g1 := (wr_field i hi).good m ([], false) rfl o1
  have g2 := (wr_field i hi).good (z0 m.kind) ([], false) rfl (okZ m.kind i hi)
  simp only [List.nil_append] at g1 g2
  rw [(eZ m.kind i hi).2.2.2] at g2
  rw [g1, g2] at h2
  have h2 : eField m i = eField (z0 m.kind) i := h2
  have r1 := (cn_field (z0 m.kind) i hi).read [] (upd (z0 m.kind) m i) [] ⟨(okField_upd _ m i hi).2 o1, (upd_idem _ m i).symm⟩
  have r2 := (cn_field (z0 m.kind) i hi).read [] (z0 m.kind) [] ⟨okZ m.kind i hi, (upd_self _ i).symm⟩
  simp only [eField_upd _ m i hi, h2] at r1 r2
  rw [r1] at r2
  simp only [Prod.mk.injEq, Option.some.injEq, and_true] at r2
  exact r2
def updN (z c : MsV) : Nat → MsV
  | 0 => z
  | i + 1 => upd (updN z c i) c i
theorem upd_twice (u c : MsV) (i : Nat) (hi : i < 15) : upd (upd u c i) c i = upd u c i := by
  match i, hi with
  | 0, _ | 1, _ | 2, _ | 3, _ | 4, _ | 5, _ | 6, _ | 7, _ | 8, _ | 9, _ | 10, _ | 11, _ | 12, _ | 13, _ | 14, _ => rfl
theorem upd_comm (u c : MsV) (i j : Nat) (hi : i < 15) (hj : j < 15) : upd (upd u c i) c j = upd (upd u c j) c i := by
  match j, hj with
  | 0, _ | 1, _ | 2, _ | 3, _ | 4, _ | 5, _ | 6, _ | 7, _ | 8, _ | 9, _ | 10, _ | 11, _ | 12, _ | 13, _ | 14, _ =>
    match i, hi with
    | 0, _ | 1, _ | 2, _ | 3, _ | 4, _ | 5, _ | 6, _ | 7, _ | 8, _ | 9, _ | 10, _ | 11, _ | 12, _ | 13, _ | 14, _ => rfl
theorem updN_pre (z m : MsV) : ∀ i, i ≤ 15 → ∀ j, j < i → upd (updN z m i) m j = updN z m i
  | 0, _, j, h => absurd h (Nat.not_lt_zero _)
  | i + 1, hi, j, h => by
    rcases Nat.lt_succ_iff_lt_or_eq.1 h with hj | rfl
    · show upd (upd (updN z m i) m i) m j = upd (updN z m i) m i
      rw [upd_comm _ m i j (by omega) (by omega), updN_pre z m i (by omega) j hj]
    · show upd (upd (updN z m j) m j) m j = upd (updN z m j) m j
      exact upd_twice _ m j (by omega)
theorem updN_kind (z m : MsV) : ∀ i, (updN z m i).kind = z.kind
  | 0 => rfl
  | i + 1 => (upd_kind _ m i).trans (updN_kind z m i)
theorem upd_ext {c m : MsV} (hk : c.kind = m.kind) (h : ∀ j, j < 15 → upd c m j = c) : c = m := by
  have h0 : m.bal = c.bal := (congrArg MsV.bal (h 0 (by omega)) : (upd c m 0).bal = c.bal)
  have h1 : m.slot = c.slot := (congrArg MsV.slot (h 1 (by omega)) : (upd c m 1).slot = c.slot)
  have h2 : m.from_ = c.from_ := (congrArg MsV.from_ (h 2 (by omega)) : (upd c m 2).from_ = c.from_)
  have h3 : m.to = c.to := (congrArg MsV.to (h 3 (by omega)) : (upd c m 3).to = c.to)
  have h4 : m.index = c.index := (congrArg MsV.index (h 4 (by omega)) : (upd c m 4).index = c.index)
  have h5 : m.count = c.count := (congrArg MsV.count (h 5 (by omega)) : (upd c m 5).count = c.count)
  have h6 : m.req = c.req := (congrArg MsV.req (h 6 (by omega)) : (upd c m 6).req = c.req)
  have h7 : m.other = c.other := (congrArg MsV.other (h 7 (by omega)) : (upd c m 7).other = c.other)
  have h8 : m.data = c.data := (congrArg MsV.data (h 8 (by omega)) : (upd c m 8).data = c.data)
  have h9 : m.sig = c.sig := (congrArg MsV.sig (h 9 (by omega)) : (upd c m 9).sig = c.sig)
  have h10 : m.cert = c.cert := (congrArg MsV.cert (h 10 (by omega)) : (upd c m 10).cert = c.cert)
  have h11 : m.votes = c.votes := (congrArg MsV.votes (h 11 (by omega)) : (upd c m 11).votes = c.votes)
  have h12 : m.order = c.order := (congrArg MsV.order (h 12 (by omega)) : (upd c m 12).order = c.order)
  have h13 : m.picks = c.picks := (congrArg MsV.picks (h 13 (by omega)) : (upd c m 13).picks = c.picks)
  have h14 : m.reports = c.reports := (congrArg MsV.reports (h 14 (by omega)) : (upd c m 14).reports = c.reports)
  obtain ⟨a, a0, a1, a2, a3, a4, a5, a6, a7, a8, a9, a10, a11, a12, a13, a14⟩ := c
  obtain ⟨b, b0, b1, b2, b3, b4, b5, b6, b7, b8, b9, b10, b11, b12, b13, b14⟩ := m
  dsimp only at *
  subst hk h0 h1 h2 h3 h4 h5 h6 h7 h8 h9 h10 h11 h12 h13 h14
  rfl
theorem updN_all (m : MsV) : updN (z0 m.kind) m 15 = m := upd_ext (updN_kind _ m 15) (updN_pre _ m 15 (Nat.le_refl _))
theorem updN_zero (m : MsV) (i : Nat) (hi : i < 15) (h : upd (z0 m.kind) m i = z0 m.kind) : ∀ n, n ≤ i → upd (updN (z0 m.kind) m n) m i = updN (z0 m.kind) m n
  | 0, _ => h
  | n + 1, hn => by
    show upd (upd (updN (z0 m.kind) m n) m n) m i = upd (updN (z0 m.kind) m n) m n
    rw [upd_comm _ m n i (by omega) hi, updN_zero m i hi h n (by omega)]
theorem okLoop_of (m : MsV) (h : ∀ j, j < 15 → hasF m.kind j = true → okField m j) (hz : ∀ j, j < 15 → hasF m.kind j = false → upd (z0 m.kind) m j = z0 m.kind) : ∀ (n i : Nat), i + n = 15 → okLoop m m.kind n i (updN (z0 m.kind) m i)
  | 0, i, hi => by
    obtain rfl : i = 15 := by omega
    exact (updN_all m).symm
  | n + 1, i, hi => by
    refine ⟨fun hk => h i (by omega) hk, ?_⟩
    have ih := okLoop_of m h hz n (i + 1) (by omega)
    cases hk : hasF m.kind i with
    | true => exact ih
    | false =>
      have := updN_zero m i (by omega) (hz i (by omega) hk) i (Nat.le_refl _)
      show okLoop m m.kind n (i + 1) (updN (z0 m.kind) m i)
      rw [← this]
      exact ih
theorem empAll_true (m : MsV) : ∀ n, empAll m n = true → ∀ j, j < n → hasF m.kind j = false → emptyF m j = true
  | 0, _, j, hj, _ => absurd hj (Nat.not_lt_zero _)
  | n + 1, h, j, hj, hk => by
    unfold empAll at h
    simp only [Bool.and_eq_true, Bool.or_eq_true] at h
    rcases Nat.lt_succ_iff_lt_or_eq.1 hj with hj | rfl
    · exact empAll_true m n h.1 j hj hk
    · rcases h.2 with h2 | h2
      · rw [hk] at h2; cases h2
      · exact h2
/-- What is written is right. -/
theorem encE_ok {m : MsV} (h : encE m = 0) : okMsg m ∧ fieldsL m.kind ≠ [] ∧ (encS m 15).1 = eMsg m ∧ (eMsg m).length ≤ 1048576 := by
  unfold encE at h
  split at h
  · cases h
  · rename_i hf
    split at h
    · cases h
    · rename_i he
      split at h
      · cases h
      · rename_i hb
        split at h
        · cases h
        · rename_i hl
          have he : empAll m 15 = true := by simpa using he
          have hb : (encS m 15).2 = false := by simpa using hb
          obtain ⟨k1, k2⟩ := encS_bad m 15 (Nat.le_refl _) hb
          have hS : (encS m 15).1 = eMsg m := by
            rw [encS_good m k1 15 (Nat.le_refl _) k2]
            exact congrArg (encI m.kind ++ ·) (eUp_all m)
          refine ⟨⟨k1, okLoop_of m k2 (fun j hj hk => empty_zero m j hj (empAll_true m 15 he j hj hk)) 15 0 rfl⟩, hf, hS, ?_⟩
          rw [hS] at hl
          omega

theorem okLoop_keep (c : MsV) (k : Int) : ∀ (n i : Nat) (m : MsV), i + n ≤ 15 → okLoop c k n i m → ∀ j, j < i → upd c m j = c
  | 0, i, m, _, h, j, _ => by
    have h : c = m := h
    rw [← h]
    exact upd_self c j
  | n + 1, i, m, hi, h, j, hj => by
    have ih := okLoop_keep c k n (i + 1) _ (by omega) h.2 j (by omega)
    cases hk : hasF k i with
    | false => rw [hk] at ih; exact ih
    | true =>
      rw [hk, _root_.cond_true, upd_skip c m c i j (by omega) (by omega) (by omega)] at ih
      exact ih
theorem okLoop_zero (c : MsV) (k : Int) : ∀ (n i : Nat) (m : MsV), i + n ≤ 15 → okLoop c k n i m → ∀ j, i ≤ j → j < i + n → hasF k j = false → upd c m j = c
  | 0, i, m, _, _, j, h1, h2, _ => absurd h2 (by omega)
  | n + 1, i, m, hi, h, j, h1, h2, hk => by
    by_cases hj : j = i
    · subst hj
      have := okLoop_keep c k n (j + 1) _ (by omega) h.2 j (by omega)
      rw [hk] at this
      exact this
    · have ih := okLoop_zero c k n (i + 1) _ (by omega) h.2 j (by omega) (by omega) hk
      cases hki : hasF k i with
      | false => rw [hki] at ih; exact ih
      | true =>
        rw [hki, _root_.cond_true, upd_skip c m c i j (by omega) (by omega) hj] at ih
        exact ih
theorem okLoop_has (c : MsV) (k : Int) : ∀ (n i : Nat) (m : MsV), okLoop c k n i m → ∀ j, i ≤ j → j < i + n → hasF k j = true → okField c j
  | 0, i, m, _, j, h1, h2, _ => absurd h2 (by omega)
  | n + 1, i, m, h, j, h1, h2, hk => by
    by_cases hj : j = i
    · subst hj; exact h.1 hk
    · exact okLoop_has c k n (i + 1) _ h.2 j (by omega) (by omega) hk
theorem wField_upd (m c : MsV) (i : Nat) (h : i < 15) : wField (upd m c i) i = wField c i := by
  match i, h with
  | 0, _ | 1, _ | 2, _ | 3, _ | 4, _ | 5, _ | 6, _ | 7, _ | 8, _ | 9, _ | 10, _ | 11, _ | 12, _ | 13, _ | 14, _ => rfl
theorem zero_field {m : MsV} (h : okMsg m) {i : Nat} (hi : i < 15) (hk : hasF m.kind i = false) : wField m i = wField zM i ∧ eField m i = eField zM i ∧ okField m i := by
  have e := okLoop_zero m m.kind 15 0 _ (Nat.le_refl _) h.2 i (Nat.zero_le _) (by omega) hk
  have z := eZ m.kind i hi
  refine ⟨?_, ?_, ?_⟩
  · rw [← z.2.2.2, ← wField_upd m (z0 m.kind) i hi, e]
  · rw [← z.2.2.1, ← eField_upd m (z0 m.kind) i hi, e]
  · rw [← e]; exact (okField_upd m (z0 m.kind) i hi).2 (okZ m.kind i hi)
theorem all_field {m : MsV} (h : okMsg m) {i : Nat} (hi : i < 15) : okField m i := by
  cases hk : hasF m.kind i with
  | true => exact okLoop_has m m.kind 15 0 _ h.2 i (Nat.zero_le _) (by omega) hk
  | false => exact (zero_field h hi hk).2.2
theorem zero_bad' (i : Nat) (hi : i < 15) : (wField zM i ([], false)).2 = false := by
  have : ∀ i : Fin 15, (wField zM i.val ([], false)).2 = false := by decide
  exact this ⟨i, hi⟩
theorem empAll_of {m : MsV} (h : okMsg m) : ∀ n, n ≤ 15 → empAll m n = true
  | 0, _ => rfl
  | n + 1, hn => by
    unfold empAll
    rw [empAll_of h n (by omega)]
    cases hk : hasF m.kind n with
    | true => rfl
    | false =>
      have e := (zero_field h (i := n) (by omega) hk).1
      have z := zero_bad' n (by omega)
      unfold emptyF
      rw [e, z]
      simp
/-- What is right is written. -/
theorem okMsg_enc {m : MsV} (h : okMsg m) (hf : fieldsL m.kind ≠ []) (hl : (eMsg m).length ≤ 1048576) : encE m = 0 ∧ (encS m 15).1 = eMsg m := by
  have hg := encS_good m h.1 15 (Nat.le_refl _) (fun j hj _ => all_field h hj)
  have hS : (encS m 15).1 = eMsg m := by
    rw [hg]
    exact congrArg (encI m.kind ++ ·) (eUp_all m)
  refine ⟨?_, hS⟩
  unfold encE
  rw [if_neg hf, if_neg (by rw [empAll_of h 15 (Nat.le_refl _)]; simp), if_neg (by rw [hg]; simp), if_neg (by rw [hS]; omega)]

/-! ### Bytes, costs -/
theorem okB_left {l r : List Int} (h : okB (l ++ r)) : okB l := fun b hb => h b (List.mem_append_left _ hb)
theorem okB_right {l r : List Int} (h : okB (l ++ r)) : okB r := fun b hb => h b (List.mem_append_right _ hb)
theorem okT_of {p : List Int} (h : okB (encB p)) (o : okTx p) : okT p := ⟨okB_right h, by unfold okTx at o; omega⟩
theorem okR_of {r : RqV} (h : okB (eReq r)) (o : okRq r) : okR r := by
  have h3 := okB_right (okB_right h)
  exact ⟨okT_of (okB_left h3) o.2.2.2.1, okT_of (okB_left (okB_right h3)) o.2.2.2.2.1⟩
theorem many_b {α : Type} {e : α → List Int} {l : List α} (h : okB (eMany e l)) {v : α} (hv : v ∈ l) : okB (e v) := fun b hb =>
  h b (List.mem_append_right _ (List.mem_flatten.2 ⟨e v, List.mem_map_of_mem hv, hb⟩))
theorem okVL_of {l : List VtV} (h : okB (eMany eVote l)) (o : okMany okVt l) : okVL l :=
  ⟨by have := o.1; omega, fun v hv => okT_of (okB_left (okB_right (many_b h hv))) (o.2 v hv).2.2.1⟩
theorem okPr_of {p : PrV} (h : okB (ePrep p)) (o : okPp p) : okPr p := by
  have h3 := okB_right (okB_right h)
  exact ⟨okR_of (okB_left h3) o.2.2.2.1, okVL_of (okB_left (okB_right h3)) o.2.2.2.2.1⟩
theorem okRp_of {r : RpV} (h : okB (eReport r)) (o : okRpt r) : okRp r := by
  have h4 := okB_right (okB_right (okB_right h))
  obtain ⟨_, _, _, _, o4, o5, o6, o7, _⟩ := o
  exact ⟨okT_of (okB_left h4) o4, okVL_of (okB_left (okB_right h4)) o5, ⟨by have := o6.1; omega, fun p hp => okPr_of (many_b (okB_left (okB_right (okB_right h4))) hp) (o6.2 p hp)⟩, okT_of (okB_left (okB_right (okB_right (okB_right h4)))) o7⟩
theorem loop_b {c : MsV} {k : Int} : ∀ (n i : Nat), okB (eLoop c k n i) → ∀ j, i ≤ j → j < i + n → hasF k j = true → okB (eField c j)
  | 0, i, _, j, h1, h2, _ => absurd h2 (by omega)
  | n + 1, i, h, j, h1, h2, hk => by
    by_cases hj : j = i
    · subst hj
      have := okB_left (l := cond (hasF k j) (eField c j) []) (r := eLoop c k n (j + 1)) h
      rw [hk] at this
      exact this
    · exact loop_b n (i + 1) (okB_right (l := cond (hasF k i) (eField c i) []) h) j (by omega) (by omega) hk
theorem field_b {m : MsV} (h : okMsg m) (hb : okB (eMsg m)) {i : Nat} (hi : i < 15) : okB (eField m i) := by
  cases hk : hasF m.kind i with
  | true => exact loop_b 15 0 (okB_right hb) i (Nat.zero_le _) (by omega) hk
  | false => rw [(zero_field h hi hk).2.1, ← (eZ m.kind i hi).2.2.1]; exact (eZ m.kind i hi).2.1
theorem okM_of {m : MsV} (h : okMsg m) (hb : okB (eMsg m)) : OkM m := by
  have b := fun i (hi : i < 15) => field_b h hb hi
  have o := fun i (hi : i < 15) => all_field h hi
  exact ⟨okR_of (b 6 (by omega)) (o 6 (by omega)), okR_of (b 7 (by omega)) (o 7 (by omega)), okT_of (b 8 (by omega)) (o 8 (by omega)), okT_of (b 9 (by omega)) (o 9 (by omega)),
    okVL_of (b 10 (by omega)) (o 10 (by omega)), okVL_of (b 11 (by omega)) (o 11 (by omega)), by have := (o 12 (by omega)).1; omega,
    ⟨by have := (o 13 (by omega)).1; omega, fun v hv => okR_of (many_b (b 13 (by omega)) hv) ((o 13 (by omega)).2 v hv)⟩,
    ⟨by have := (o 14 (by omega)).1; omega, fun v hv => okRp_of (many_b (b 14 (by omega)) hv) ((o 14 (by omega)).2 v hv)⟩⟩
theorem cT_e (p : List Int) : cT p ≤ 6 * (encB p).length := by
  have := encI_pos p.length
  simp only [cT, encB, List.length_append]
  omega
theorem cR_e (r : RqV) : cR r ≤ 6 * (eReq r).length := by
  have h1 := encI_pos r.client
  have h2 := encI_pos r.stamp
  have h3 := cT_e r.op
  have h4 := cT_e r.sig
  simp only [cR, eReq, List.length_append, List.length_nil]
  omega
theorem cV_e (v : VtV) : cV v ≤ 6 * (eVote v).length := by
  have h1 := encI_pos v.signer
  have h3 := cT_e v.sig
  simp only [cV, eVote, List.length_append, List.length_nil]
  omega
theorem many_c {α : Type} {e : α → List Int} {c : α → Nat} (h : ∀ v, c v ≤ 6 * (e v).length) (l : List α) : 6 + sumN c l ≤ 6 * (eMany e l).length := by
  have h1 := encI_pos l.length
  have h2 : sumN c l ≤ 6 * ((l.map e).flatten).length := by
    induction l with
    | nil => simp [sumN_nil]
    | cons x l ih =>
      have := h x
      have := ih (encI_pos _)
      rw [sumN_cons]
      simp only [List.map_cons, List.flatten_cons, List.length_append]
      omega
  simp only [eMany, List.length_append]
  omega
theorem cPr_e (p : PrV) : cPr p ≤ 6 * (ePrep p).length := by
  have h1 := encI_pos p.slot
  have h2 := encI_pos p.bal.view
  have h3 := encI_pos p.bal.turn
  have h4 := cR_e p.req
  have h5 := many_c cV_e p.cert
  simp only [cPr, cVs, ePrep, eBal, List.length_append, List.length_nil]
  omega
theorem cRp_e (r : RpV) : cRp r ≤ 6 * (eReport r).length := by
  have h1 := encI_pos r.bal.view
  have h2 := encI_pos r.bal.turn
  have h3 := encI_pos r.replica
  have h4 := encI_pos r.low
  have h5 := cT_e r.digest
  have h6 := cT_e r.sig
  have h7 := many_c cV_e r.stable
  have h8 := many_c cPr_e r.preps
  simp only [cRp, cVs, eReport, eBal, List.length_append, List.length_nil]
  omega
def sF (m : MsV) : Nat → Nat → Nat
  | 0, _ => 0
  | n + 1, i => (eField m i).length + sF m n (i + 1)
theorem sF_le {m : MsV} (h : okMsg m) : ∀ (n i : Nat), i + n ≤ 15 → sF m n i ≤ (eLoop m m.kind n i).length + 4 * n
  | 0, _, _ => Nat.zero_le _
  | n + 1, i, hi => by
    have ih := sF_le h n (i + 1) (by omega)
    simp only [sF, eLoop, List.length_append]
    cases hk : hasF m.kind i with
    | true => simp only [_root_.cond_true]; omega
    | false =>
      have := (eZ m.kind i (by omega)).1
      rw [(eZ m.kind i (by omega)).2.2.1, ← (zero_field h (i := i) (by omega) hk).2.1] at this
      simp only [_root_.cond_false, List.length_nil]
      omega
theorem cM_of {m : MsV} (h : okMsg m) : cM m ≤ 6 * (eMsg m).length + 400 := by
  have h0 := sF_le h 15 0 (Nat.le_refl _)
  have h1 := encI_pos m.slot
  have h2 := encI_pos m.from_
  have h3 := encI_pos m.to
  have h4 := encI_pos m.index
  have h5 := encI_pos m.count
  have h6 := encI_pos m.bal.view
  have h7 := encI_pos m.bal.turn
  have h8 := cR_e m.req
  have h9 := cR_e m.other
  have h10 := cT_e m.data
  have h11 := cT_e m.sig
  have h12 := many_c cV_e m.cert
  have h13 := many_c cV_e m.votes
  have h14 := many_c (e := encI) (c := fun _ => 6) (fun v => by have := encI_pos v; omega) m.order
  rw [sumN_const] at h14
  have h15 := many_c cR_e m.picks
  have h16 := many_c cRp_e m.reports
  simp only [sF, eField, eBal, List.length_append, List.length_nil] at h0
  simp only [cM, cVs, eMsg, List.length_append]
  omega
end Go.Abs

