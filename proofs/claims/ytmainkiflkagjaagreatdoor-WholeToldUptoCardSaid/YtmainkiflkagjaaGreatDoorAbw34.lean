/-
A quorum's right reports can be written in one message; seals of such messages; no program.
-/
import Derived.Test.YtmainkiflkagjaaGreatDoorAbw28
import Derived.Test.YtmainkiflkagjaaGreatDoorAbw17
import Derived.Test.YtmainkiflkagjaaGreatDoorAbw32
import Derived.Test.YtmainkiflkagjaaGreatDoorAbw21
import Derived.Test.YtmainkiflkagjaaGreatDoorAbw19
import Derived.Test.YtmainkiflkagjaaGreatDoorAbw12
import Derived.Test.YtmainkiflkagjaaGreatDoorAbw7
namespace Go.Abs
open Go Go.Proofs

theorem encE_casesW (m : MsV) : encE m = 0 ∨ encE m = 51 ∨ encE m = 53 := by
  unfold encE
  repeat' split
  all_goals simp
theorem encS_okBW {m : MsV} (hm : OkM m) : ∀ i, okB (encS m i).1
  | 0 => wNum_b m.kind _ okB_nil
  | i + 1 => by
    unfold encS
    cases hasF m.kind i with
    | true => exact wField_b hm i _ (encS_okBW hm i)
    | false => exact encS_okBW hm i
theorem take_allW (l : List Int) : List.take l.length (List.drop 0 (bsA l)) = bsA l := by
  rw [List.drop_zero, List.take_of_length_le (by simp)]
theorem okMsg_or {m : MsV} (h : okMsg m) (hf : fieldsL m.kind ≠ []) : encE m = 0 ∨ encE m = 53 := by
  have hg := encS_good m h.1 15 (Nat.le_refl _) (fun j hj _ => all_field h hj)
  unfold encE
  rw [if_neg hf, if_neg (by rw [empAll_of h 15 (Nat.le_refl _)]; simp), if_neg (by rw [hg]; simp)]
  split
  · exact .inr rfl
  · exact .inl rfl

/-- The message of a new ballot. -/
def newM (b : BalV) (l : List RpV) (s : List Int) : MsV := { zM with kind := 9, bal := b, sig := s, order := [1, 2, 3, 0], reports := l }
theorem newM_one (b : BalV) (l : List RpV) (s : List Int) : oneM (newM b l s) = false := rfl
theorem newM_with (b : BalV) (l : List RpV) (s t : List Int) : withSig (newM b l s) t = newM b l t := by unfold withSig; rw [newM_one]; rfl
theorem newM_bare (b : BalV) (l : List RpV) (s : List Int) : bareM (newM b l s) = newM b l [] := newM_with b l s []
theorem newM_dom (b : BalV) (l : List RpV) (s t : List Int) : domS (newM b l s) = domS (newM b l t) := rfl
theorem newM_seal (b : BalV) (l : List RpV) (s t : List Int) : sealB (newM b l s) = sealB (newM b l t) := by unfold sealB; rw [newM_bare, newM_bare]
theorem newM_sig (b : BalV) (l : List RpV) (s : List Int) : sigM (newM b l s) = s := by unfold sigM; rw [newM_one]; rfl
theorem k9f {b : BalV} {l : List RpV} {s : List Int} {i : Nat} {P : Prop} (h : hasF (newM b l s).kind i = true) (h2 : hasF 9 i = false) : P := by
  have h3 : hasF 9 i = true := h
  rw [h2] at h3; cases h3
theorem newM_msg {b : BalV} {l : List RpV} {s : List Int} (hb : okBal b) (hs : okTx s) (hl : l.length ≤ 64) (hr : ∀ r ∈ l, okRpt r) : okMsg (newM b l s) := by
  refine ⟨rfl, ?_⟩
  refine ⟨fun _ => hb, ⟨fun h => k9f h (by decide), ⟨fun h => k9f h (by decide), ⟨fun h => k9f h (by decide), ⟨fun h => k9f h (by decide), ⟨fun h => k9f h (by decide), ⟨fun h => k9f h (by decide), ⟨fun h => k9f h (by decide), ⟨fun h => k9f h (by decide), ⟨fun _ => hs, ⟨fun h => k9f h (by decide), ⟨fun h => k9f h (by decide), ⟨fun _ => ?_, ⟨fun h => k9f h (by decide), ⟨fun _ => ⟨hl, hr⟩, ?_⟩⟩⟩⟩⟩⟩⟩⟩⟩⟩⟩⟩⟩⟩⟩
  · exact ⟨(by decide : [1, 2, 3, 0].length ≤ 64), fun v hv => by simp only [newM, List.mem_cons, List.not_mem_nil, or_false] at hv; rcases hv with rfl | rfl | rfl | rfl <;> rfl⟩
  · rfl
theorem newM_fields (b : BalV) (l : List RpV) (s : List Int) : fieldsL (newM b l s).kind ≠ [] := by
  show fieldsL 9 ≠ []
  decide
theorem newM_ok {b : BalV} {l : List RpV} (hl : OkRl l) {s : List Int} (hs : okT s) : OkM (newM b l s) :=
  ⟨okR_z, okR_z, okT_nil, hs, okVL_nil, okVL_nil, by simp [newM], ⟨by simp [newM, zM], fun _ h => by cases h⟩, ⟨hl.1, fun r hr => (hl.2 r hr).ok⟩⟩
theorem newM_c (b : BalV) (l : List RpV) (s : List Int) : cM (newM b l s) ≤ sumN cRp l + s.length + 200 := by
  simp only [cM, newM, zM, zR, sumN_nil, cR, cT, cVs, List.length_nil, List.length_cons]
  omega

/-! ### Right reports can be written -/
theorem signK_le (k : Int) (s : ByteArray) (ps : List (List Int)) : (signK k s ps).length ≤ 32 := by
  unfold signK
  cases rightK k with
  | true => exact Nat.le_of_eq (shaL_len _)
  | false => exact Nat.zero_le _
theorem sealS_okT (m : MsV) (g : Int) : okB (sealS m g) ∧ (sealS m g).length ≤ 32 := by
  unfold sealS
  cases encE (bareM m) == 0 with
  | true => exact ⟨signK_ok _ _ _, signK_le _ _ _⟩
  | false => exact ⟨fun _ h => (List.not_mem_nil h).elim, Nat.zero_le _⟩
theorem right_rpt {r : RpV} {n : Int} (h : rightR r n = true) : okRpt r := by
  have hs : sealOk (repM r) r.replica = true := by
    unfold rightR at h
    cases h1 : rightB n <;> rw [h1] at h <;> try (cases h; done)
    cases h2 : decide (r.replica < 0) <;> rw [h2] at h <;> try (cases h; done)
    cases h3 : decide (r.replica ≥ n) <;> rw [h3] at h <;> try (cases h; done)
    cases h4 : stabB r n <;> rw [h4] at h <;> try (cases h; done)
    cases h5 : prepG r n r.low r.preps with
    | false => rw [h5] at h; cases h
    | true => rw [h5] at h; simp only [Bool.cond_true, Bool.cond_false] at h; exact h
  have hone : oneM (repM r) = true := rfl
  unfold sealOk at hs
  cases he : encE (bareM (repM r)) == 0 with
  | false => rw [he] at hs; cases hs
  | true =>
    rw [he] at hs
    have he' : encE (bareM (repM r)) = 0 := by simpa using he
    obtain ⟨k1, _, _, _⟩ := encE_ok he'
    have hf : okMany okRpt (bareM (repM r)).reports := all_field k1 (i := 14) (by omega)
    have hb : (bareM (repM r)).reports = [{ r with sig := [] }] := rfl
    rw [hb] at hf
    have hr0 := hf.2 { r with sig := [] } (by simp)
    have hsig : okTx r.sig := by
      have hsg : sigM (repM r) = r.sig := rfl
      rw [hsg] at hs
      cases hd : decide (((bsA (textK (replK r.replica) (domS (repM r)) [sealB (repM r)])).length : Int) > 0) with
      | false => rw [hd] at hs; cases hs
      | true =>
        rw [hd] at hs
        have : r.sig = signK (replK r.replica) (domS (repM r)) [sealB (repM r)] := of_decide_eq_true hs
        have h2 := signK_le (replK r.replica) (domS (repM r)) [sealB (repM r)]
        unfold okTx
        rw [this]
        omega
    exact ⟨hr0.1, hr0.2.1, hr0.2.2.1, hr0.2.2.2.1, hr0.2.2.2.2.1, hr0.2.2.2.2.2.1, hr0.2.2.2.2.2.2.1, hsig, trivial⟩
theorem allG_mem {b : BalV} {n : Int} : ∀ (l : List RpV) (last : Int), allG b n last l = true → ∀ r ∈ l, balNe r.bal b = false ∧ rightR r n = true
  | x :: l, last, h, r, hr => by
    rw [allG_cons] at h
    cases h1 : decide (x.replica ≤ last) <;> rw [h1] at h <;> try (cases h; done)
    cases h2 : balNe x.bal b <;> rw [h2] at h <;> try (cases h; done)
    cases h3 : rightR x n <;> rw [h3] at h <;> try (cases h; done)
    rcases List.mem_cons.1 hr with rfl | hr
    · exact ⟨h2, h3⟩
    · exact allG_mem l x.replica h r hr
theorem allB_enc {b : BalV} {l : List RpV} {n : Int} (h : allB b l n = true) {s : List Int} (hs : okTx s) : encE (newM b l s) = 0 ∨ encE (newM b l s) = 53 := by
  unfold allB at h
  cases h1 : rightB n with
  | false => rw [h1] at h; cases h
  | true =>
  rw [h1] at h
  cases h2 : ((rpCL l).length : Int) != timesI n 2 1 with
  | true => rw [h2] at h; cases h
  | false =>
  rw [h2] at h
  have hm := allG_mem l (-1) h
  have hlen : ((rpCL l).length : Int) = timesI n 2 1 := by simpa using h2
  have hll : (rpCL l).length = l.length := by simp [rpCL]
  have hn : n = 4 ∨ n = 7 ∨ n = 10 ∨ n = 13 ∨ n = 16 := by
    unfold rightB at h1
    simp only [Bool.and_eq_true, decide_eq_true_eq, beq_iff_eq] at h1
    obtain ⟨a, b, c⟩ := h1
    rw [Int.tmod_eq_emod_of_nonneg (by omega)] at c
    omega
  have hq : 3 ≤ l.length ∧ l.length ≤ 64 := by
    rw [hll] at hlen
    rcases hn with rfl | rfl | rfl | rfl | rfl
    · have : timesI 4 2 1 = 3 := rfl
      omega
    · have : timesI 7 2 1 = 5 := rfl
      omega
    · have : timesI 10 2 1 = 7 := rfl
      omega
    · have : timesI 13 2 1 = 9 := rfl
      omega
    · have : timesI 16 2 1 = 11 := rfl
      omega
  have hr : ∀ r ∈ l, okRpt r := fun r hr => right_rpt (hm r hr).2
  have hb : okBal b := by
    cases l with
    | nil => simp at hq
    | cons r l =>
      have h3 := (hm r List.mem_cons_self).1
      have h4 := (hr r List.mem_cons_self).2.1
      unfold balNe at h3
      simp only [Bool.not_eq_false', Bool.and_eq_true, beq_iff_eq] at h3
      have : r.bal = b := by cases hb : r.bal; cases b; rw [hb] at h3; simp only at h3; rw [h3.1, h3.2]
      rw [← this]
      exact h4
  exact okMsg_or (newM_msg hb hs hq.2 hr) (newM_fields b l s)
/-- What can be written with its seal can be written without, and is sealed. -/
theorem seal_enc {b : BalV} {l : List RpV} {g : Int} (h : encE (newM b l (sealS (newM b l []) g)) = 0) : encE (newM b l []) = 0 := by
  by_cases h0 : encE (newM b l []) = 0
  · exact h0
  · have h1 : (encE (bareM (newM b l [])) == 0) = false := by rw [newM_bare]; simpa using h0
    have h2 : sealS (newM b l []) g = [] := by unfold sealS; rw [h1]; rfl
    rw [h2] at h
    exact h
theorem seal_ok1 {b : BalV} {l : List RpV} (h : encE (newM b l []) = 0) : sealOk (newM b l (sealS (newM b l []) 1)) 1 = true := by
  have h1 : (encE (newM b l []) == 0) = true := by simpa using h
  have e : sealS (newM b l []) 1 = signK (replK 1) (domS (newM b l [])) [sealB (newM b l [])] := by unfold sealS; rw [newM_bare, h1]; rfl
  unfold sealOk
  have hd : domS (newM b l (sealS (newM b l []) 1)) = domS (newM b l []) := newM_dom b l _ _
  have hB : sealB (newM b l (sealS (newM b l []) 1)) = sealB (newM b l []) := newM_seal b l _ _
  rw [newM_bare, h1, newM_sig, hd, hB, e, decide_eq_true rfl]
  have ht : decide (((bsA (textK (replK 1) (domS (newM b l [])) [sealB (newM b l [])])).length : Int) > 0) = true := by
    refine decide_eq_true ?_
    rw [bsA_length]
    have hk : rightK (replK 1) = true := rfl
    unfold textK
    rw [hk]
    simp only [_root_.cond_true, packL, textP, signT, encB, List.cons_append, List.nil_append, List.map_cons, List.flatten_cons, List.length_append, List.length_cons]
    omega
  rw [ht]
  rfl
theorem rqEq_refl (r : RqV) : rqEq r r = true := by simp [rqEq]
end Go.Abs

/-
WholeTold: what its code comes to.
-/
namespace Go.Abs
open Go Go.Proofs

def m9 : MsV := { zM with kind := 9 }
theorem m9_e : encE m9 = 0 := by kernel_rfl
theorem m9_s : (encS m9 15).1.length = 6 := by kernel_rfl
def g5w : GSpec := fun args K => match args with
  | [.agg [.int .i64 _, .int .i64 _], .slice es, .int .i64 _] => ∃ l : List RpV, es = rpCL l ∧ OkRl l ∧ sumN cRp l ≤ 100000000 ∧ K (.ret (.bool true))
  | _ => False
theorem g5w_det (args : List AV) : Det (g5w args) := by
  unfold g5w
  repeat' (first | exact Det.no | exact Det.at _ | refine Det.and ?_ | refine Det.ex fun _ => ?_ | refine Det.cond ?_ ?_ | split)

theorem okRL_of {l : List RpV} (hl : OkRl l) : okRL l := ⟨hl.1, fun r hr => ⟨(hl.2 r hr).ok.2.2.1.1, fun p hp => ((hl.2 r hr).ok.2.2.1.2 p hp).1⟩⟩
theorem picks_ok {l : List RpV} (hl : okRL l) : (picksL l).length ≤ 16 ∧ ∀ q ∈ picksL l, okR q := by
  refine ⟨?_, ?_⟩
  · unfold picksL picksN
    rw [List.length_map, List.length_range]
    dsimp only
    split <;> omega
  intro q hq
  obtain ⟨i, _, rfl⟩ := List.mem_map.1 hq
  have h := bestF_ok (s := slotAt l i) l none (fun r hr => (hl.2 r hr).2) (fun p h => by cases h)
  unfold pickL
  cases hb : bestF (slotAt l i) l none with
  | none => exact okR_z
  | some p => exact h p hb
def T5w (T : Tab) : Tab := ext (ext (ext (ext (ext (ext (ext (ext (ext T 15 (freshT g16)) 9 (pureT g44)) 16 (pureT g27)) 13 (flatT gal)) 17 (pureT g20)) 18 (flatT g29)) 19 (pureT gpicks)) 20 (flatT glow)) 21 (flatT g25)
theorem T5w_good {T : Tab} (hT : TGood Tryz.prog T) : TGood Tryz.prog (T5w T) := by
  have t0 := ext_good hT (s16 hT)
  have t1 := ext_good t0 (s44 t0)
  have t2 := ext_good t1 (s27 t1)
  have t3 := ext_good t2 (sal t2)
  have t4 := ext_good t3 (s20 t3)
  have t5 := ext_good t4 (s29 t4)
  have t6 := ext_good t5 (spicks t5)
  have t7 := ext_good t6 (slow t6)
  exact ext_good t7 (s25 t7)
set_option maxRecDepth 100000 in
set_option maxHeartbeats 16000000 in
theorem f5w_ok (view turn n : Int) (l : List RpV) (hl : OkRl l) (hc : sumN cRp l ≤ 100000000) (T : Tab) (Q : AOut → Prop) (hQ : Q (.ret (.bool true))) (N : Nat) (hN : l.length + 17 < N) :
    abody Tryz.prog (T5w T) 0 N Tryz.f5 [.agg [.int .i64 view, .int .i64 turn], .slice (rpCL l), .int .i64 n] [] (fun out Hs => Q (frzO Hs out)) := by
  have hlen : (rpCL l).length = l.length := by simp [rpCL]
  have hl1 := hl.1
  conv => whnf
  refine ⟨m9, by kernel_rfl, ⟨okR_z, okR_z, okT_nil, okT_nil, okVL_nil, okVL_nil, by simp [m9, zM], ⟨by simp [m9, zM], fun _ h => by cases h⟩, ⟨by simp [m9, zM], fun _ h => by cases h⟩⟩, of_decide_eq_true (by kernel_rfl), ?_⟩
  unfold encK
  rw [m9_e, m9_s]
  conv => whnf
  refine aloop_at ?_ ?_ (aloop_inv (σ := Nat × List RpV) (fun s => ((sp 0 129 [(2, .int .i64 n), (3, .ptr 0 0), (9, rowV1 (rpCL s.2)), (33, .slice (rpCL l)), (34, .int .i64 ((rpCL l).length : Nat)), (35, .int .i64 (s.1 : Nat))]), .var [.int .i64 view, .int .i64 turn] :: rowH1 28 8 (rpCL s.2)))
    (fun s => s.1 ≤ l.length ∧ s.2 = l.take s.1) (fun s => l.length - s.1) ?_ N (0, []) ⟨Nat.zero_le _, rfl⟩ (by dsimp only; omega))
  · kernel_rfl
  · kernel_rfl
  rintro ⟨i, acc⟩ ⟨i1, i2⟩ R hR
  dsimp only at i1 i2
  have hcl : (rpCL acc).length = i := by rw [i2]; simp [rpCL]; omega
  rcases acc with _ | ⟨x, xs⟩
  · conv => whnf
    split
    rotate_left
    · rename_i h3; have h3 : ¬ (i : Int) < (rpCL l).length := of_decide_eq_false h3
      rw [hlen] at h3
      clear hR
      have hacc : [] = l := by rw [i2, show i = l.length by omega, List.take_length]
      subst hacc
      conv => whnf
      refine ⟨newM ⟨view, turn⟩ [] [], by kernel_rfl, newM_ok hl okT_nil, Nat.le_trans (newM_c _ _ _) (by simp only [List.length_nil]; omega), ?_⟩
      rw [newM_with]
      have hs32 := sealS_okT (newM ⟨view, turn⟩ [] []) 1
      have hse := @seal_enc ⟨view, turn⟩ [] 1
      have hso := @seal_ok1 ⟨view, turn⟩ []
      generalize sealS (newM ⟨view, turn⟩ [] []) 1 = s at hs32 hse hso ⊢
      have hmok := newM_ok (b := ⟨view, turn⟩) hl (s := s) ⟨hs32.1, by omega⟩
      have hmc : cM (newM ⟨view, turn⟩ [] s) ≤ 1073741824 := Nat.le_trans (newM_c _ _ _) (by omega)
      conv => whnf
      refine ⟨newM ⟨view, turn⟩ [] s, rfl, hmok, hmc, ?_⟩
      unfold encK
      rcases encE_casesW (newM ⟨view, turn⟩ [] s) with he | he | he
      rotate_left
      · rw [he]
        conv => whnf
        refine ⟨[], rfl, hl, ?_⟩
        have hab : allB ⟨view, turn⟩ [] n = false := by
          cases hb : allB ⟨view, turn⟩ [] n with
          | false => rfl
          | true => rcases allB_enc hb (s := s) (by unfold okTx; omega) with h | h <;> exact absurd (he.symm.trans h) (by decide)
        rw [hab]
        conv => whnf
        refine Eq.mp ?_ hQ
        kernel_rfl
      · rw [he]
        conv => whnf
        refine ⟨[], rfl, hl, ?_⟩
        generalize allB ⟨view, turn⟩ [] n = b
        cases b
        all_goals
          conv => whnf
          refine Eq.mp ?_ hQ
          kernel_rfl
      obtain ⟨k1, k2, k3, k4⟩ := encE_ok he
      have hb := encS_okBW hmok 15
      rw [k3] at hb
      rw [he, k3]
      conv => whnf
      refine ⟨eMsg (newM ⟨view, turn⟩ [] s), take_allW _, ⟨hb, by omega⟩, ?_⟩
      rw [decM_enc k1 k2 k4]
      conv => whnf
      have hsl := hso (hse he)
      refine ⟨[], ?_⟩
      conv => whnf
      refine ⟨newM ⟨view, turn⟩ [] s, rfl, hmok, hmc, ?_⟩
      rw [hsl]
      conv => whnf
      repeat (refine ⟨rfl, ?_⟩; conv => whnf)
      refine ⟨[], rfl, hl, ?_⟩
      generalize hab : allB ⟨view, turn⟩ [] n = b
      conv => whnf
      repeat (refine ⟨rfl, ?_⟩; conv => whnf)
      refine ⟨[], rfl, hl, ?_⟩
      rw [hab]
      clear hab
      have hrl := okRL_of hl
      have hpk := picks_ok hrl
      cases b
      all_goals
        conv => whnf
        repeat (refine ⟨rfl, ?_⟩; conv => whnf)
        refine ⟨[], rfl, hrl, ?_⟩
        generalize hp : picksL [] = p at hpk
        conv => whnf
        refine ⟨[], rfl, hrl, ?_⟩
        rw [hp]
        clear hp
        conv => whnf

        have hne : (((rqCL p).length : Int) != (rqCL p).length) = false := by simp
        rw [hne]
        conv => whnf
        refine ⟨[], rfl, hrl.1, ?_⟩
        generalize hlo : lowL [] 0 = lo
        conv => whnf
        refine ⟨[], rfl, hrl.1, ?_⟩
        rw [hlo]
        clear hlo
        conv => whnf
        have hne2 : (lo != lo) = false := by simp
        rw [hne2]
        conv => whnf
        refine aloop_at ?_ ?_ (aloop_inv (σ := Nat) (fun j => (sp 0 129 [(17, .slice (rqCL p)), (18, .slice (rqCL p)), (114, .int .i64 ((rqCL p).length : Nat)), (115, .int .i64 (j : Nat))], []))
          (fun j => j ≤ p.length) (fun j => p.length - j) ?_ N 0 (Nat.zero_le _) (by have := hpk.1; omega))
        · kernel_rfl
        · kernel_rfl
        clear hne hne2
        intro j hj R hR
        have hpl : (rqCL p).length = p.length := by simp [rqCL]
        conv => whnf
        split
        rotate_left
        · clear hR
          conv => whnf
          refine Eq.mp ?_ hQ
          kernel_rfl
        rename_i h4; have h4 : (j : Int) < (rqCL p).length := of_decide_eq_true h4
        rw [hpl] at h4
        obtain ⟨q, hqq⟩ : ∃ q, p[j]? = some q := ⟨p[j]'(by omega), List.getElem?_eq_getElem (by omega)⟩
        have hqa : (rqCL p)[j]? = some (rqC q) := by simp [rqCL, hqq]
        have hqk := hpk.2 q (List.mem_of_getElem? hqq)
        have hp16 := hpk.1
        have hj1 : IntKind.i64.wrap ((j : Int) + 1) = ((j + 1 : Nat) : Int) := by rw [IntWalk.i64_in _ (by omega)]; omega
        have hz : (0 : Int) ≤ (j : Nat) := by omega
        have hz2 : ((j : Nat) : Int) < ((rqCL p).length : Nat) := by omega
        conv => whnf
        refine ⟨[], ?_⟩
        conv => whnf
        repeat ((first | refine ⟨hz, hz2, _, hqa, by kernel_rfl, ?_⟩ | refine ⟨q, q, rfl, rfl, hqk, hqk, ?_⟩ | refine ⟨rfl, ?_⟩ | rw [rqEq_refl]); conv => whnf)

        refine R_at ?_ ?_ (hR (j + 1) (by omega) (by omega))
        · rw [← hj1]; kernel_rfl
        · kernel_rfl
    rename_i h3; have h3 : (i : Int) < (rpCL l).length := of_decide_eq_true h3
    rw [hlen] at h3
    obtain ⟨r, hrr⟩ : ∃ r, l[i]? = some r := ⟨l[i]'(by omega), List.getElem?_eq_getElem (by omega)⟩
    have hra : (rpCL l)[i]? = some (rpC r) := by simp [rpCL, hrr]
    have hok := hl.2 r (List.mem_of_getElem? hrr)
    have hi1 : IntKind.i64.wrap ((i : Int) + 1) = ((i + 1 : Nat) : Int) := by rw [IntWalk.i64_in _ (by omega)]; omega
    have hnx : l.take (i + 1) = [] ++ [r] := by rw [List.take_add_one, hrr, ← i2]; rfl
    conv => whnf
    refine ⟨by show (0 : Int) ≤ (i : Nat); omega, by show ((i : Nat) : Int) < ((rpCL l).length : Nat); omega, _, hra, by kernel_rfl, ?_⟩
    conv => whnf
    refine ⟨r, rfl, hok.ok, ?_⟩
    conv => whnf
    refine ⟨fits_at (ys' := [rpC r]) (by kernel_rfl) (fits_lt (by kernel_rfl) (by kernel_rfl) (Nat.lt_of_le_of_lt (Nat.le_of_eq hcl) (by omega))), ?_⟩
    conv => whnf
    refine R_at ?_ ?_ (hR (i + 1, [r]) ⟨by omega, hnx.symm⟩ (by dsimp only; omega))
    · rw [← hi1]; kernel_rfl
    · kernel_rfl
  · conv => whnf
    split
    rotate_left
    · rename_i h3; have h3 : ¬ (i : Int) < (rpCL l).length := of_decide_eq_false h3
      rw [hlen] at h3
      clear hR
      have hacc : (x :: xs) = l := by rw [i2, show i = l.length by omega, List.take_length]
      subst hacc
      conv => whnf
      refine ⟨newM ⟨view, turn⟩ (x :: xs) [], by kernel_rfl, newM_ok hl okT_nil, Nat.le_trans (newM_c _ _ _) (by simp only [List.length_nil]; omega), ?_⟩
      rw [newM_with]
      have hs32 := sealS_okT (newM ⟨view, turn⟩ (x :: xs) []) 1
      have hse := @seal_enc ⟨view, turn⟩ (x :: xs) 1
      have hso := @seal_ok1 ⟨view, turn⟩ (x :: xs)
      generalize sealS (newM ⟨view, turn⟩ (x :: xs) []) 1 = s at hs32 hse hso ⊢
      have hmok := newM_ok (b := ⟨view, turn⟩) hl (s := s) ⟨hs32.1, by omega⟩
      have hmc : cM (newM ⟨view, turn⟩ (x :: xs) s) ≤ 1073741824 := Nat.le_trans (newM_c _ _ _) (by omega)
      conv => whnf
      refine ⟨newM ⟨view, turn⟩ (x :: xs) s, rfl, hmok, hmc, ?_⟩
      unfold encK
      rcases encE_casesW (newM ⟨view, turn⟩ (x :: xs) s) with he | he | he
      rotate_left
      · rw [he]
        conv => whnf
        refine ⟨(x :: xs), rfl, hl, ?_⟩
        have hab : allB ⟨view, turn⟩ (x :: xs) n = false := by
          cases hb : allB ⟨view, turn⟩ (x :: xs) n with
          | false => rfl
          | true => rcases allB_enc hb (s := s) (by unfold okTx; omega) with h | h <;> exact absurd (he.symm.trans h) (by decide)
        rw [hab]
        conv => whnf
        refine Eq.mp ?_ hQ
        kernel_rfl
      · rw [he]
        conv => whnf
        refine ⟨(x :: xs), rfl, hl, ?_⟩
        generalize allB ⟨view, turn⟩ (x :: xs) n = b
        cases b
        all_goals
          conv => whnf
          refine Eq.mp ?_ hQ
          kernel_rfl
      obtain ⟨k1, k2, k3, k4⟩ := encE_ok he
      have hb := encS_okBW hmok 15
      rw [k3] at hb
      rw [he, k3]
      conv => whnf
      refine ⟨eMsg (newM ⟨view, turn⟩ (x :: xs) s), take_allW _, ⟨hb, by omega⟩, ?_⟩
      rw [decM_enc k1 k2 k4]
      conv => whnf
      have hsl := hso (hse he)
      refine ⟨[], ?_⟩
      conv => whnf
      refine ⟨newM ⟨view, turn⟩ (x :: xs) s, rfl, hmok, hmc, ?_⟩
      rw [hsl]
      conv => whnf
      repeat (refine ⟨rfl, ?_⟩; conv => whnf)
      refine ⟨(x :: xs), rfl, hl, ?_⟩
      generalize hab : allB ⟨view, turn⟩ (x :: xs) n = b
      conv => whnf
      repeat (refine ⟨rfl, ?_⟩; conv => whnf)
      refine ⟨(x :: xs), rfl, hl, ?_⟩
      rw [hab]
      clear hab
      have hrl := okRL_of hl
      have hpk := picks_ok hrl
      cases b
      all_goals
        conv => whnf
        repeat (refine ⟨rfl, ?_⟩; conv => whnf)
        refine ⟨(x :: xs), rfl, hrl, ?_⟩
        generalize hp : picksL (x :: xs) = p at hpk
        conv => whnf
        refine ⟨(x :: xs), rfl, hrl, ?_⟩
        rw [hp]
        clear hp
        conv => whnf

        have hne : (((rqCL p).length : Int) != (rqCL p).length) = false := by simp
        rw [hne]
        conv => whnf
        refine ⟨(x :: xs), rfl, hrl.1, ?_⟩
        generalize hlo : lowL (x :: xs) 0 = lo
        conv => whnf
        refine ⟨(x :: xs), rfl, hrl.1, ?_⟩
        rw [hlo]
        clear hlo
        conv => whnf
        have hne2 : (lo != lo) = false := by simp
        rw [hne2]
        conv => whnf
        refine aloop_at ?_ ?_ (aloop_inv (σ := Nat) (fun j => (sp 0 129 [(17, .slice (rqCL p)), (18, .slice (rqCL p)), (114, .int .i64 ((rqCL p).length : Nat)), (115, .int .i64 (j : Nat))], []))
          (fun j => j ≤ p.length) (fun j => p.length - j) ?_ N 0 (Nat.zero_le _) (by have := hpk.1; omega))
        · kernel_rfl
        · kernel_rfl
        clear hne hne2
        intro j hj R hR
        have hpl : (rqCL p).length = p.length := by simp [rqCL]
        conv => whnf
        split
        rotate_left
        · clear hR
          conv => whnf
          refine Eq.mp ?_ hQ
          kernel_rfl
        rename_i h4; have h4 : (j : Int) < (rqCL p).length := of_decide_eq_true h4
        rw [hpl] at h4
        obtain ⟨q, hqq⟩ : ∃ q, p[j]? = some q := ⟨p[j]'(by omega), List.getElem?_eq_getElem (by omega)⟩
        have hqa : (rqCL p)[j]? = some (rqC q) := by simp [rqCL, hqq]
        have hqk := hpk.2 q (List.mem_of_getElem? hqq)
        have hp16 := hpk.1
        have hj1 : IntKind.i64.wrap ((j : Int) + 1) = ((j + 1 : Nat) : Int) := by rw [IntWalk.i64_in _ (by omega)]; omega
        have hz : (0 : Int) ≤ (j : Nat) := by omega
        have hz2 : ((j : Nat) : Int) < ((rqCL p).length : Nat) := by omega
        conv => whnf
        refine ⟨[], ?_⟩
        conv => whnf
        repeat ((first | refine ⟨hz, hz2, _, hqa, by kernel_rfl, ?_⟩ | refine ⟨q, q, rfl, rfl, hqk, hqk, ?_⟩ | refine ⟨rfl, ?_⟩ | rw [rqEq_refl]); conv => whnf)

        refine R_at ?_ ?_ (hR (j + 1) (by omega) (by omega))
        · rw [← hj1]; kernel_rfl
        · kernel_rfl
    rename_i h3; have h3 : (i : Int) < (rpCL l).length := of_decide_eq_true h3
    rw [hlen] at h3
    obtain ⟨r, hrr⟩ : ∃ r, l[i]? = some r := ⟨l[i]'(by omega), List.getElem?_eq_getElem (by omega)⟩
    have hra : (rpCL l)[i]? = some (rpC r) := by simp [rpCL, hrr]
    have hok := hl.2 r (List.mem_of_getElem? hrr)
    have hi1 : IntKind.i64.wrap ((i : Int) + 1) = ((i + 1 : Nat) : Int) := by rw [IntWalk.i64_in _ (by omega)]; omega
    have hnx : l.take (i + 1) = (x :: xs) ++ [r] := by rw [List.take_add_one, hrr, ← i2]; rfl
    conv => whnf
    refine ⟨by show (0 : Int) ≤ (i : Nat); omega, by show ((i : Nat) : Int) < ((rpCL l).length : Nat); omega, _, hra, by kernel_rfl, ?_⟩
    conv => whnf
    refine ⟨r, rfl, hok.ok, ?_⟩
    conv => whnf
    refine ⟨fits_at (ys' := [rpC r]) (by kernel_rfl) (fits_lt (by kernel_rfl) (by kernel_rfl) (Nat.lt_of_le_of_lt (Nat.le_of_eq hcl) (by omega))), ?_⟩
    conv => whnf
    refine R_at ?_ ?_ (hR (i + 1, (x :: xs) ++ [r]) ⟨by omega, hnx.symm⟩ (by dsimp only; omega))
    · rw [← hi1]; kernel_rfl
    · show _ = HO.var [.int .i64 view, .int .i64 turn] :: rowH1 28 8 (rpCL ((x :: xs) ++ [r]))
      rw [show rpCL ((x :: xs) ++ [r]) = rpCL (x :: xs) ++ [rpC r] by simp [rpCL]]
      kernel_rfl
set_option maxRecDepth 100000 in
theorem s5w {T : Tab} (hT : TGood Tryz.prog T) : SGood Tryz.prog 5 (pureT g5w) := pureT_good g5w_det fun args Q h => by
  unfold g5w at h
  split at h
  · obtain ⟨l, rfl, hl, hc, hQ⟩ := h
    exact body_pure (T5w_good hT) mixedT Tryz.func5 (entersOf Tryz.func5 (by kernel_rfl) rfl) _ (f5w_ok _ _ _ l hl hc T Q hQ (l.length + 18) (by omega))
  · exact h.elim
end Go.Abs

