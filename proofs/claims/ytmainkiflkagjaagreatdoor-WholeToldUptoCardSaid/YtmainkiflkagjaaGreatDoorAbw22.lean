/-
vote.asked, Asked, the document's Ask, Asked are what they come to.
-/
import Derived.Test.YtmainkiflkagjaaGreatDoorAbw21
import Derived.Test.YtmainkiflkagjaaGreatDoorAbw17
import Derived.Test.YtmainkiflkagjaaGreatDoorAbw16
namespace Go.Abs
open Go Go.Proofs

def reqS : ByteArray := ⟨#[114, 101, 113, 117, 101, 115, 116]⟩
def askP (r : RqV) : List (List Int) := [numsL [r.client, r.stamp], r.op]

def gas : GSpec := fun args K => match args with
  | [.agg cs] => ∃ r : RqV, cs = rqC r ∧ K (.ret (.agg [.int .i64 (cliK r.client), .str reqS, .slice (partsA (askP r))]))
  | _ => False
theorem gas_det (args : List AV) : Det (gas args) := by
  unfold gas
  repeat' (first | exact Det.no | exact Det.at _ | refine Det.and ?_ | refine Det.ex fun _ => ?_ | refine Det.cond ?_ ?_ | split)

set_option maxRecDepth 100000 in
set_option maxHeartbeats 4000000 in
theorem fas_ok (r : RqV) (T : Tab) (Q : AOut → Prop) (hQ : Q (.ret (.agg [.int .i64 (cliK r.client), .str reqS, .slice (partsA (askP r))]))) (N : Nat) :
    abody Tryz.prog (ext (ext T 124 (flatT gcl)) 125 (pureT g137)) 0 N Tryz.f72 [.agg (rqC r)] [] (fun out Hs => Q (frzO Hs out)) := by
  conv => whnf
  refine ⟨[7, 8, 11, 13], ?_⟩
  conv => whnf
  repeat (first | (refine ⟨rfl, ?_⟩; conv => whnf) | (refine ⟨by (conv => whnf); exact ⟨rfl, rfl⟩, ?_⟩; conv => whnf) | (refine ⟨[r.client, r.stamp], by kernel_rfl, by show 2 ≤ 1000; decide, ?_⟩; conv => whnf))
  refine Eq.mp ?_ hQ
  kernel_rfl
set_option maxRecDepth 100000 in
theorem sas {T : Tab} (hT : TGood Tryz.prog T) : SGood Tryz.prog 72 (pureT gas) := pureT_good gas_det fun args Q h => by
  unfold gas at h
  split at h
  · skip
    obtain ⟨r, rfl, hQ⟩ := h
    have t0 := ext_good hT (scl hT)
    have t1 := ext_good t0 (s137 t0)
    exact body_pure t1 mixedT Tryz.func72 (entersOf Tryz.func72 (by kernel_rfl) rfl) 0 (fas_ok r T Q hQ 0)
  · exact h.elim

def askOk (r : RqV) : Bool := verK (cliK r.client) r.sig reqS (askP r)
def askB (r : RqV) : Bool := cond (decide (r.client ≥ 1)) (cond (decide (r.client ≤ 4)) (cond (decide (r.stamp ≥ 1)) (cond (decide (r.stamp ≤ 2147483647)) (cond (decide (((bsA r.op).length : Int) ≥ 1)) (cond (decide (((bsA r.op).length : Int) ≤ 256)) (askOk r) false) false) false) false) false) false
theorem askP_ok {r : RqV} (hr : okR r) (h : r.op.length ≤ 256) : okP (askP r) := by
  have h1 := encB_len r.op
  have h3 := encI_len (numsL [r.client, r.stamp]).length
  have h4 := numsL_len [r.client, r.stamp]
  have h5 := encI_len (r.op.length : Int)
  refine ⟨by simp [askP], fun p hp => ?_, ?_⟩
  · simp only [askP, List.mem_cons, List.not_mem_nil, or_false] at hp
    rcases hp with rfl | rfl
    · exact numsL_ok _
    · exact hr.1.1
  · simp only [packL, askP, encB, List.map_cons, List.map_nil, List.flatten_cons, List.flatten_nil, List.length_append, List.length_nil, List.length_cons] at *
    omega
theorem askSig_ok {r : RqV} (hr : okR r) : okB r.sig := hr.2.1

def gak : GSpec := fun args K => match args with
  | [.agg cs] => ∃ r : RqV, cs = rqC r ∧ okR r ∧ K (.ret (.bool (askB r)))
  | _ => False
theorem gak_det (args : List AV) : Det (gak args) := by
  unfold gak
  repeat' (first | exact Det.no | exact Det.at _ | refine Det.and ?_ | refine Det.ex fun _ => ?_ | refine Det.cond ?_ ?_ | split)
theorem gak_flat (args : List AV) (o : AOut) (h : gak args (· = o)) : flatO o = true := by
  unfold gak at h
  split at h
  · obtain ⟨_, _, _, rfl⟩ := h; rfl
  · exact h.elim

set_option maxRecDepth 100000 in
set_option maxHeartbeats 8000000 in
theorem fak_ok (r : RqV) (hr : okR r) (T : Tab) (Q : AOut → Prop) (hQ : Q (.ret (.bool (askB r)))) (N : Nat) :
    abody Tryz.prog (ext (ext T 72 (pureT gas)) 73 (flatT g119)) 0 N Tryz.f35 [.agg (rqC r)] [] (fun out Hs => Q (frzO Hs out)) := by
  unfold askB at hQ
  conv => whnf
  cases h1 : decide (r.client ≥ 1) with
  | false =>
    rw [h1] at hQ
    conv => whnf
    refine ⟨[], ?_⟩
    conv => whnf
    repeat (refine ⟨rfl, ?_⟩; conv => whnf)
    refine Eq.mp ?_ hQ
    kernel_rfl
  | true =>
    rw [h1] at hQ
    conv => whnf
    cases h2 : decide (r.client ≤ 4) with
    | false =>
      rw [h2] at hQ
      conv => whnf
      refine ⟨[], ?_⟩
      conv => whnf
      repeat (refine ⟨rfl, ?_⟩; conv => whnf)
      refine Eq.mp ?_ hQ
      kernel_rfl
    | true =>
      rw [h2] at hQ
      conv => whnf
      cases h3 : decide (r.stamp ≥ 1) with
      | false =>
        rw [h3] at hQ
        conv => whnf
        refine ⟨[], ?_⟩
        conv => whnf
        repeat (refine ⟨rfl, ?_⟩; conv => whnf)
        refine Eq.mp ?_ hQ
        kernel_rfl
      | true =>
        rw [h3] at hQ
        conv => whnf
        cases h4 : decide (r.stamp ≤ 2147483647) with
        | false =>
          rw [h4] at hQ
          conv => whnf
          refine ⟨[], ?_⟩
          conv => whnf
          repeat (refine ⟨rfl, ?_⟩; conv => whnf)
          refine Eq.mp ?_ hQ
          kernel_rfl
        | true =>
          rw [h4] at hQ
          conv => whnf
          refine ⟨[], ?_⟩
          conv => whnf
          repeat (refine ⟨rfl, ?_⟩; conv => whnf)
          have hlen : ((bsA r.op).length : Int) = (r.op.length : Int) := by rw [bsA_length]
          have hp2 : decide (((bsA r.op).length : Int) ≤ 256) = true → okP (askP r) := fun h => askP_ok hr (by have := of_decide_eq_true h; omega)
          generalize decide (((bsA r.op).length : Int) ≥ 1) = g1 at hQ ⊢
          cases g1 with
          | false =>
            conv => whnf
            repeat (refine ⟨rfl, ?_⟩; conv => whnf)
            refine Eq.mp ?_ hQ
            kernel_rfl
          | true =>
            conv => whnf
            repeat (refine ⟨rfl, ?_⟩; conv => whnf)
            generalize decide (((bsA r.op).length : Int) ≤ 256) = g2 at hQ hp2 ⊢
            cases g2 with
            | false =>
              conv => whnf
              repeat (refine ⟨rfl, ?_⟩; conv => whnf)
              refine Eq.mp ?_ hQ
              kernel_rfl
            | true =>
              have hp := hp2 rfl
              replace hQ : Q (.ret (.bool (askOk r))) := hQ
              unfold askOk at hQ
              conv => whnf
              repeat (refine ⟨rfl, ?_⟩; conv => whnf)
              refine ⟨r, rfl, ?_⟩
              conv => whnf
              repeat (refine ⟨rfl, ?_⟩; conv => whnf)
              refine ⟨r.sig, askP r, rfl, rfl, hr.2.1, hp, by decide, ?_⟩
              generalize verK (cliK r.client) r.sig reqS (askP r) = v at hQ ⊢
              conv => whnf
              repeat (refine ⟨rfl, ?_⟩; conv => whnf)
              refine Eq.mp ?_ hQ
              kernel_rfl

set_option maxRecDepth 100000 in
theorem sak {T : Tab} (hT : TGood Tryz.prog T) : SGood Tryz.prog 35 (flatT gak) := flatT_good gak_det gak_flat fun args Q h => by
  unfold gak at h
  split at h
  · skip
    obtain ⟨r, rfl, hr, hQ⟩ := h
    have t0 := ext_good hT (sas hT)
    have t1 := ext_good t0 (s119 t0)
    exact body_pure t1 mixedT Tryz.func35 (entersOf Tryz.func35 (by kernel_rfl) rfl) 0 (fak_ok r hr T Q hQ 0)
  · exact h.elim

/-! ### The document's -/
theorem cond_not {p q : Bool} (h : p = !q) (A : Bool) : cond p A false = cond q false A := by subst h; cases q <;> rfl
theorem dlt (a b : Int) : decide (a ≥ b) = !decide (a < b) := by
  by_cases h : a < b
  · have : ¬ a ≥ b := by omega
    simp [h, this]
  · have : a ≥ b := by omega
    simp [h, this]
theorem dgt (a b : Int) : decide (a ≤ b) = !decide (a > b) := by
  by_cases h : a > b
  · have : ¬ a ≤ b := by omega
    simp [h, this]
  · have : a ≤ b := by omega
    simp [h, this]
def askD (r : RqV) : Bool := cond (decide (r.client < 1)) false (cond (decide (r.client > 4)) false (cond (decide (r.stamp < 1)) false (cond (decide (r.stamp > 2147483647)) false (cond (decide (((bsA r.op).length : Int) < 1)) false (cond (decide (((bsA r.op).length : Int) > 256)) false (decide (r.sig = signK (cliK r.client) reqS (askP r))))))))
theorem rightK_cli {c : Int} (h1 : 1 ≤ c) (h2 : c ≤ 4) : rightK (cliK c) = true := by
  have h : c = 1 ∨ c = 2 ∨ c = 3 ∨ c = 4 := by omega
  rcases h with rfl | rfl | rfl | rfl <;> rfl
theorem askD_eq (r : RqV) : askD r = askB r := by
  unfold askB
  rw [cond_not (dlt r.client 1), cond_not (dgt r.client 4), cond_not (dlt r.stamp 1), cond_not (dgt r.stamp 2147483647), cond_not (dlt ((bsA r.op).length : Int) 1), cond_not (dgt ((bsA r.op).length : Int) 256)]
  unfold askD askOk verK
  cases h1 : decide (r.client < 1) with
  | true => rfl
  | false =>
    cases h2 : decide (r.client > 4) with
    | true => rfl
    | false =>
      have a := of_decide_eq_false h1
      have b := of_decide_eq_false h2
      rw [rightK_cli (by omega) (by omega), Bool.true_and]

def gad : GSpec := fun args K => match args with
  | [.agg cs] => ∃ r : RqV, cs = rqC r ∧ okP (askP r) ∧ K (.ret (.agg (rqC { r with sig := signK (cliK r.client) reqS (askP r) })))
  | _ => False
theorem gad_det (args : List AV) : Det (gad args) := by
  unfold gad
  repeat' (first | exact Det.no | exact Det.at _ | refine Det.and ?_ | refine Det.ex fun _ => ?_ | refine Det.cond ?_ ?_ | split)

set_option maxRecDepth 100000 in
set_option maxHeartbeats 4000000 in
theorem fad_ok (r : RqV) (hp : okP (askP r)) (T : Tab) (Q : AOut → Prop) (hQ : Q (.ret (.agg (rqC { r with sig := signK (cliK r.client) reqS (askP r) })))) (N : Nat) :
    abody Tryz.prog (ext (ext (ext T 134 (flatT gcl)) 135 (pureT g137)) 133 (pureT (txtG signK))) 0 N Tryz.f80 [.agg (rqC r)] [] (fun out Hs => Q (frzO Hs out)) := by
  conv => whnf
  refine ⟨[7, 8, 11, 12, 14], ?_⟩
  conv => whnf
  repeat (first | (refine ⟨rfl, ?_⟩; conv => whnf) | (refine ⟨by (conv => whnf); exact ⟨rfl, rfl⟩, ?_⟩; conv => whnf) | (refine ⟨[r.client, r.stamp], by kernel_rfl, by show 2 ≤ 1000; decide, ?_⟩; conv => whnf))
  refine ⟨askP r, by kernel_rfl, hp, by decide, ?_⟩
  generalize signK (cliK r.client) reqS (askP r) = sg at hQ ⊢
  conv => whnf
  repeat (first | (refine ⟨rfl, ?_⟩; conv => whnf) | (refine ⟨by (conv => whnf); exact ⟨rfl, rfl⟩, ?_⟩; conv => whnf))
  refine Eq.mp ?_ hQ
  kernel_rfl
set_option maxRecDepth 100000 in
theorem sad {T : Tab} (hT : TGood Tryz.prog T) : SGood Tryz.prog 80 (pureT gad) := pureT_good gad_det fun args Q h => by
  unfold gad at h
  split at h
  · skip
    obtain ⟨r, rfl, hp, hQ⟩ := h
    have t0 := ext_good hT (scld hT)
    have t1 := ext_good t0 (snd t0)
    have t2 := ext_good t1 (s75 t1)
    exact body_pure t2 mixedT Tryz.func80 (entersOf Tryz.func80 (by kernel_rfl) rfl) 0 (fad_ok r hp T Q hQ 0)
  · exact h.elim

set_option maxRecDepth 100000 in
set_option maxHeartbeats 8000000 in
theorem fakd_ok (r : RqV) (hr : okR r) (T : Tab) (Q : AOut → Prop) (hQ : Q (.ret (.bool (askB r)))) (N : Nat) :
    abody Tryz.prog (ext (ext T 80 (pureT gad)) 25 (flatT g18)) 0 N Tryz.f42 [.agg (rqC r)] [] (fun out Hs => Q (frzO Hs out)) := by
  rw [← askD_eq] at hQ
  unfold askD at hQ
  conv => whnf
  cases h1 : decide (r.client < 1) with
  | true =>
    rw [h1] at hQ
    conv => whnf
    refine Eq.mp ?_ hQ
    kernel_rfl
  | false =>
    rw [h1] at hQ
    conv => whnf
    cases h2 : decide (r.client > 4) with
    | true =>
      rw [h2] at hQ
      conv => whnf
      refine Eq.mp ?_ hQ
      kernel_rfl
    | false =>
      rw [h2] at hQ
      conv => whnf
      cases h3 : decide (r.stamp < 1) with
      | true =>
        rw [h3] at hQ
        conv => whnf
        refine Eq.mp ?_ hQ
        kernel_rfl
      | false =>
        rw [h3] at hQ
        conv => whnf
        cases h4 : decide (r.stamp > 2147483647) with
        | true =>
          rw [h4] at hQ
          conv => whnf
          refine Eq.mp ?_ hQ
          kernel_rfl
        | false =>
          rw [h4] at hQ
          conv => whnf
          cases h5 : decide (((bsA r.op).length : Int) < 1) with
          | true =>
            rw [h5] at hQ
            conv => whnf
            refine Eq.mp ?_ hQ
            kernel_rfl
          | false =>
            rw [h5] at hQ
            conv => whnf
            cases h6 : decide (((bsA r.op).length : Int) > 256) with
            | true =>
              rw [h6] at hQ
              conv => whnf
              refine Eq.mp ?_ hQ
              kernel_rfl
            | false =>
              rw [h6] at hQ
              have hlen : ((bsA r.op).length : Int) = (r.op.length : Int) := by rw [bsA_length]
              have hp : okP (askP r) := askP_ok hr (by have := of_decide_eq_false h6; omega)
              have hso := signK_ok (cliK r.client) reqS (askP r)
              replace hQ : Q (.ret (.bool (decide (r.sig = signK (cliK r.client) reqS (askP r))))) := hQ
              conv => whnf
              refine ⟨[], ?_⟩
              conv => whnf
              repeat (refine ⟨rfl, ?_⟩; conv => whnf)
              refine ⟨r, rfl, hp, ?_⟩
              generalize signK (cliK r.client) reqS (askP r) = sg at hQ hso ⊢
              conv => whnf
              repeat (refine ⟨rfl, ?_⟩; conv => whnf)
              refine ⟨r.sig, sg, rfl, rfl, hr.2.1, hso, ?_⟩
              conv => whnf
              repeat (refine ⟨rfl, ?_⟩; conv => whnf)
              refine Eq.mp ?_ hQ
              kernel_rfl

set_option maxRecDepth 100000 in
theorem sakd {T : Tab} (hT : TGood Tryz.prog T) : SGood Tryz.prog 42 (flatT gak) := flatT_good gak_det gak_flat fun args Q h => by
  unfold gak at h
  split at h
  · skip
    obtain ⟨r, rfl, hr, hQ⟩ := h
    have t0 := ext_good hT (sad hT)
    have t1 := ext_good t0 (s18 t0)
    exact body_pure t1 mixedT Tryz.func42 (entersOf Tryz.func42 (by kernel_rfl) rfl) 0 (fakd_ok r hr T Q hQ 0)
  · exact h.elim

end Go.Abs

/-
vote.Cert, the document's Cert are what they come to.
-/
namespace Go.Abs
open Go Go.Proofs

def certG (n : Int) (ok : VtV → Bool) : Int → List VtV → Bool
  | _, [] => true
  | last, v :: r => cond (decide (v.signer ≤ last)) false (cond (decide (v.signer ≥ n)) false (cond (ok v) (certG n ok v.signer r) false))
theorem certG_cons (n : Int) (ok : VtV → Bool) (last : Int) (v : VtV) (r : List VtV) : certG n ok last (v :: r) = cond (decide (v.signer ≤ last)) false (cond (decide (v.signer ≥ n)) false (cond (ok v) (certG n ok v.signer r) false)) := rfl
def vokB (kind view turn slot : Int) (body : List Int) (v : VtV) : Bool := verK (replK v.signer) v.sig voteS (voteP kind view turn slot body)
def certB (kind view turn slot : Int) (body : List Int) (votes : List VtV) (n : Int) : Bool :=
  cond (rightB n) (cond (((vtCL votes).length : Int) != timesI n 2 1) false (certG n (vokB kind view turn slot body) (-1) votes)) false

def gce : GSpec := fun args K => match args with
  | [.int .i64 kind, .agg [.int .i64 view, .int .i64 turn], .int .i64 slot, .slice es, .slice fs, .int .i64 n] => ∃ (body : List Int) (votes : List VtV), es = bsA body ∧ fs = vtCL votes ∧ okP (voteP kind view turn slot body) ∧ okVL votes ∧ K (.ret (.bool (certB kind view turn slot body votes n)))
  | _ => False
theorem gce_det (args : List AV) : Det (gce args) := by
  unfold gce
  repeat' (first | exact Det.no | exact Det.at _ | refine Det.and ?_ | refine Det.ex fun _ => ?_ | refine Det.cond ?_ ?_ | split)
theorem gce_flat (args : List AV) (o : AOut) (h : gce args (· = o)) : flatO o = true := by
  unfold gce at h
  split at h
  · obtain ⟨_, _, _, _, _, _, rfl⟩ := h; rfl
  · exact h.elim

set_option maxRecDepth 100000 in
set_option maxHeartbeats 16000000 in
theorem fce_ok (kind view turn slot n : Int) (body : List Int) (votes : List VtV) (hp : okP (voteP kind view turn slot body)) (hv : okVL votes) (T : Tab) (Q : AOut → Prop) (hQ : Q (.ret (.bool (certB kind view turn slot body votes n)))) (N : Nat) (hN : votes.length < N) :
    abody Tryz.prog (ext (ext (ext T 31 (flatT grt)) 45 (flatT gqu)) 74 (flatT g66)) 0 N Tryz.f36 [.int .i64 kind, .agg [.int .i64 view, .int .i64 turn], .int .i64 slot, .slice (bsA body), .slice (vtCL votes), .int .i64 n] [] (fun out Hs => Q (frzO Hs out)) := by
  have hlen : (vtCL votes).length = votes.length := by simp [vtCL]
  have hv1 := hv.1
  unfold certB at hQ
  conv => whnf
  cases hr : rightB n with
  | false =>
    rw [hr] at hQ
    conv => whnf
    refine Eq.mp ?_ hQ
    kernel_rfl
  | true =>
  rw [hr] at hQ
  conv => whnf
  cases h2 : (((vtCL votes).length : Int) != timesI n 2 1) with
  | true =>
    rw [h2] at hQ
    conv => whnf
    refine Eq.mp ?_ hQ
    kernel_rfl
  | false =>
  rw [h2] at hQ
  replace hQ : Q (.ret (.bool (certG n (vokB kind view turn slot body) (-1) votes))) := hQ
  conv => whnf
  refine aloop_at ?_ ?_ (aloop_inv (σ := Nat × Int) (fun s => ((sp 0 54 [(0, .int .i64 kind), (2, .int .i64 slot), (3, .slice (bsA body)), (5, .int .i64 n), (7, .ptr 0 0), (13, .int .i64 s.2), (26, .slice (vtCL votes)), (27, .int .i64 ((vtCL votes).length : Nat)), (28, .int .i64 (s.1 : Nat))]), [.var [.int .i64 view, .int .i64 turn]]))
    (fun s => s.1 ≤ votes.length ∧ certG n (vokB kind view turn slot body) (-1) votes = certG n (vokB kind view turn slot body) s.2 (votes.drop s.1)) (fun s => votes.length - s.1) ?_ N (0, -1) ⟨Nat.zero_le _, rfl⟩ (by dsimp only; omega))
  · kernel_rfl
  · kernel_rfl
  rintro ⟨i, last⟩ ⟨i1, i2⟩ R hR
  dsimp only at i1 i2
  rw [i2] at hQ
  conv => whnf
  split
  rotate_left
  · rename_i h3; have h3 : ¬ (i : Int) < (vtCL votes).length := of_decide_eq_false h3
    rw [hlen] at h3
    rw [List.drop_of_length_le (by omega)] at hQ
    refine Eq.mp ?_ hQ
    kernel_rfl
  rename_i h3; have h3 : (i : Int) < (vtCL votes).length := of_decide_eq_true h3
  rw [hlen] at h3
  obtain ⟨v, hvv⟩ : ∃ v, votes[i]? = some v := ⟨votes[i]'(by omega), List.getElem?_eq_getElem (by omega)⟩
  have hva : (vtCL votes)[i]? = some (vtC v) := by simp [vtCL, hvv]
  have hsg := (hv.2 v (List.mem_of_getElem? hvv)).1
  rw [drop_get hvv] at i2 hQ
  rw [certG_cons] at i2 hQ
  have hi1 : IntKind.i64.wrap ((i : Int) + 1) = ((i + 1 : Nat) : Int) := by rw [IntWalk.i64_in _ (by omega)]; omega
  conv => whnf
  refine ⟨by show (0 : Int) ≤ (i : Nat); omega, by show ((i : Nat) : Int) < ((vtCL votes).length : Nat); omega, _, hva, by kernel_rfl, ?_⟩
  conv => whnf
  cases h4 : decide (v.signer ≤ last) with
  | true =>
    rw [h4] at hQ
    conv => whnf
    refine Eq.mp ?_ hQ
    kernel_rfl
  | false =>
  rw [h4] at hQ i2
  conv => whnf
  cases h5 : decide (v.signer ≥ n) with
  | true =>
    rw [h5] at hQ
    conv => whnf
    refine Eq.mp ?_ hQ
    kernel_rfl
  | false =>
  rw [h5] at hQ i2
  conv => whnf
  refine ⟨body, v.sig, rfl, rfl, hsg, hp, ?_⟩
  replace hQ : Q (.ret (.bool (cond (vokB kind view turn slot body v) (certG n (vokB kind view turn slot body) v.signer (votes.drop (i + 1))) false))) := hQ
  replace i2 : certG n (vokB kind view turn slot body) (-1) votes = cond (vokB kind view turn slot body v) (certG n (vokB kind view turn slot body) v.signer (votes.drop (i + 1))) false := i2
  rw [show vokB kind view turn slot body v = verK (replK v.signer) v.sig voteS (voteP kind view turn slot body) from rfl] at hQ i2
  generalize verK (replK v.signer) v.sig voteS (voteP kind view turn slot body) = b at hQ i2 ⊢
  cases b with
  | false =>
    conv => whnf
    refine Eq.mp ?_ hQ
    kernel_rfl
  | true =>
    conv => whnf
    refine R_at ?_ ?_ (hR (i + 1, v.signer) ⟨by omega, i2⟩ (by dsimp only; omega))
    · rw [← hi1]; kernel_rfl
    · kernel_rfl
set_option maxRecDepth 100000 in
theorem sce {T : Tab} (hT : TGood Tryz.prog T) : SGood Tryz.prog 36 (flatT gce) := flatT_good gce_det gce_flat fun args Q h => by
  unfold gce at h
  split at h
  · skip
    obtain ⟨body, votes, rfl, rfl, hp, hv, hQ⟩ := h
    have t0 := ext_good hT (srt hT)
    have t1 := ext_good t0 (squ t0)
    have t2 := ext_good t1 (s66 t1)
    exact body_pure t2 mixedT Tryz.func36 (entersOf Tryz.func36 (by kernel_rfl) rfl) _ (fce_ok _ _ _ _ _ body votes hp hv T Q hQ (votes.length + 1) (Nat.lt_succ_self _))
  · exact h.elim

set_option maxRecDepth 100000 in
set_option maxHeartbeats 16000000 in
theorem fced_ok (kind view turn slot n : Int) (body : List Int) (votes : List VtV) (hp : okP (voteP kind view turn slot body)) (hv : okVL votes) (T : Tab) (Q : AOut → Prop) (hQ : Q (.ret (.bool (certB kind view turn slot body votes n)))) (N : Nat) (hN : votes.length < N) :
    abody Tryz.prog (ext (ext (ext T 38 (flatT grt)) 46 (flatT gqu)) 68 (flatT g66)) 0 N Tryz.f40 [.int .i64 kind, .agg [.int .i64 view, .int .i64 turn], .int .i64 slot, .slice (bsA body), .slice (vtCL votes), .int .i64 n] [] (fun out Hs => Q (frzO Hs out)) := by
  have hlen : (vtCL votes).length = votes.length := by simp [vtCL]
  have hv1 := hv.1
  unfold certB at hQ
  conv => whnf
  cases hr : rightB n with
  | false =>
    rw [hr] at hQ
    conv => whnf
    refine Eq.mp ?_ hQ
    kernel_rfl
  | true =>
  rw [hr] at hQ
  conv => whnf
  cases h2 : (((vtCL votes).length : Int) != timesI n 2 1) with
  | true =>
    rw [h2] at hQ
    conv => whnf
    refine Eq.mp ?_ hQ
    kernel_rfl
  | false =>
  rw [h2] at hQ
  replace hQ : Q (.ret (.bool (certG n (vokB kind view turn slot body) (-1) votes))) := hQ
  conv => whnf
  refine aloop_at ?_ ?_ (aloop_inv (σ := Nat × Int) (fun s => ((sp 0 66 [(0, .int .i64 kind), (2, .int .i64 slot), (3, .slice (bsA body)), (4, .slice (vtCL votes)), (5, .int .i64 n), (7, .ptr 0 0), (25, .slice (vtCL votes)), (26, .int .i64 ((vtCL votes).length : Nat)), (27, .int .i64 (s.1 : Nat))]), [.var [.int .i64 view, .int .i64 turn]]))
    (fun s => s.1 ≤ votes.length ∧ certG n (vokB kind view turn slot body) (-1) votes = certG n (vokB kind view turn slot body) s.2 (votes.drop s.1) ∧ ((s.1 = 0 ∧ s.2 = -1) ∨ (∃ u, 1 ≤ s.1 ∧ votes[s.1 - 1]? = some u ∧ s.2 = u.signer ∧ 0 ≤ s.2))) (fun s => votes.length - s.1) ?_ N (0, -1) ⟨Nat.zero_le _, rfl, .inl ⟨rfl, rfl⟩⟩ (by dsimp only; omega))
  · kernel_rfl
  · kernel_rfl
  rintro ⟨i, last⟩ ⟨i1, i2, iu⟩ R hR
  dsimp only at i1 i2 iu
  rw [i2] at hQ
  conv => whnf
  split
  rotate_left
  · rename_i h3; have h3 : ¬ (i : Int) < (vtCL votes).length := of_decide_eq_false h3
    rw [hlen] at h3
    rw [List.drop_of_length_le (by omega)] at hQ
    refine Eq.mp ?_ hQ
    kernel_rfl
  rename_i h3; have h3 : (i : Int) < (vtCL votes).length := of_decide_eq_true h3
  rw [hlen] at h3
  obtain ⟨v, hvv⟩ : ∃ v, votes[i]? = some v := ⟨votes[i]'(by omega), List.getElem?_eq_getElem (by omega)⟩
  have hva : (vtCL votes)[i]? = some (vtC v) := by simp [vtCL, hvv]
  have hsg := (hv.2 v (List.mem_of_getElem? hvv)).1
  rw [drop_get hvv] at i2 hQ
  rw [certG_cons] at i2 hQ
  have hi1 : IntKind.i64.wrap ((i : Int) + 1) = ((i + 1 : Nat) : Int) := by rw [IntWalk.i64_in _ (by omega)]; omega
  have hlast : -1 ≤ last := by rcases iu with ⟨_, h⟩ | ⟨_, _, _, _, h⟩ <;> omega
  conv => whnf
  refine ⟨by show (0 : Int) ≤ (i : Nat); omega, by show ((i : Nat) : Int) < ((vtCL votes).length : Nat); omega, _, hva, by kernel_rfl, ?_⟩
  conv => whnf
  refine ⟨[], ?_⟩
  conv => whnf
  have fin : ∀ {S : Prop}, (decide (v.signer ≤ last) = true → S) → (decide (v.signer ≤ last) = false → S) → S := fun a b => by
    cases h : decide (v.signer ≤ last)
    · exact b h
    · exact a h
  have out : v.signer ≤ last ∨ v.signer ≥ n → Q (.ret (.bool false)) := fun h => by
    by_cases h1 : v.signer ≤ last
    · rw [decide_eq_true h1] at hQ; exact hQ
    · rw [decide_eq_false h1, decide_eq_true (show v.signer ≥ n by omega)] at hQ; exact hQ
  have fin2 : ¬ v.signer ≤ last → ¬ v.signer ≥ n → Q (.ret (.bool (cond (vokB kind view turn slot body v) (certG n (vokB kind view turn slot body) v.signer (votes.drop (i + 1))) false))) ∧ certG n (vokB kind view turn slot body) (-1) votes = cond (vokB kind view turn slot body v) (certG n (vokB kind view turn slot body) v.signer (votes.drop (i + 1))) false := fun h1 h2 => by
    rw [decide_eq_false h1, decide_eq_false h2] at hQ i2
    exact ⟨hQ, i2⟩
  clear fin hQ i2
  cases h4 : decide (v.signer < 0) with
  | true =>
    have h4 := of_decide_eq_true h4
    conv => whnf
    repeat (refine ⟨rfl, ?_⟩; conv => whnf)
    refine Eq.mp ?_ (out (.inl (by omega)))
    kernel_rfl
  | false =>
  have h4 := of_decide_eq_false h4
  conv => whnf
  repeat (refine ⟨rfl, ?_⟩; conv => whnf)
  cases h5 : decide (v.signer ≥ n) with
  | true =>
    have h5 := of_decide_eq_true h5
    conv => whnf
    repeat (refine ⟨rfl, ?_⟩; conv => whnf)
    refine Eq.mp ?_ (out (.inr h5))
    kernel_rfl
  | false =>
  have h5 := of_decide_eq_false h5
  conv => whnf
  repeat (refine ⟨rfl, ?_⟩; conv => whnf)
  have fin3 : ¬ v.signer ≤ last → (∀ b : Bool, verK (replK v.signer) v.sig voteS (voteP kind view turn slot body) = b → (Q (.ret (.bool (cond b (certG n (vokB kind view turn slot body) v.signer (votes.drop (i + 1))) false))) ∧ certG n (vokB kind view turn slot body) (-1) votes = cond b (certG n (vokB kind view turn slot body) v.signer (votes.drop (i + 1))) false)) := fun h b hb => by
    have := fin2 h h5
    rw [show vokB kind view turn slot body v = b from hb] at this
    exact this
  clear fin2
  cases h6 : decide ((i : Int) > 0) with
  | false =>
    have h6 := of_decide_eq_false h6
    conv => whnf
    repeat (refine ⟨rfl, ?_⟩; conv => whnf)
    have hle : ¬ v.signer ≤ last := by
      rcases iu with ⟨_, h⟩ | ⟨_, h, _⟩
      · omega
      · omega
    have f3 := fin3 hle
    refine ⟨body, v.sig, rfl, rfl, hsg, hp, ?_⟩
    generalize hb : verK (replK v.signer) v.sig voteS (voteP kind view turn slot body) = b
    obtain ⟨hQ, i3⟩ := f3 b hb
    cases b with
    | false =>
      conv => whnf
      repeat (refine ⟨rfl, ?_⟩; conv => whnf)
      refine Eq.mp ?_ hQ
      kernel_rfl
    | true =>
      conv => whnf
      repeat (refine ⟨rfl, ?_⟩; conv => whnf)
      refine R_at ?_ ?_ (hR (i + 1, v.signer) ⟨by dsimp only; omega, i3, .inr ⟨v, by dsimp only; omega, by dsimp only; rw [Nat.add_sub_cancel]; exact hvv, rfl, by dsimp only; omega⟩⟩ (by dsimp only; omega))
      · rw [← hi1]; kernel_rfl
      · kernel_rfl
  | true =>
    have h6 := of_decide_eq_true h6
    rcases iu with ⟨h, _⟩ | ⟨u, hu1, hu2, hu3, hu4⟩
    · omega
    have hm : IntKind.i64.wrap ((i : Int) - 1) = ((i - 1 : Nat) : Int) := by rw [IntWalk.i64_in _ (by omega)]; omega
    have hua : (vtCL votes)[(IntKind.i64.wrap ((i : Int) - 1)).toNat]? = some (vtC u) := by rw [hm, Int.toNat_natCast]; simp [vtCL, hu2]
    conv => whnf
    repeat (refine ⟨rfl, ?_⟩; conv => whnf)
    refine ⟨by show (0 : Int) ≤ IntKind.i64.wrap ((i : Int) - 1); rw [hm]; omega, by show IntKind.i64.wrap ((i : Int) - 1) < ((vtCL votes).length : Nat); rw [hm]; omega, _, hua, by kernel_rfl, ?_⟩
    conv => whnf
    repeat (refine ⟨rfl, ?_⟩; conv => whnf)
    cases h7 : decide (v.signer ≤ u.signer) with
    | true =>
      have h7 := of_decide_eq_true h7
      conv => whnf
      repeat (refine ⟨rfl, ?_⟩; conv => whnf)
      refine Eq.mp ?_ (out (.inl (by omega)))
      kernel_rfl
    | false =>
      have h7 := of_decide_eq_false h7
      have hle : ¬ v.signer ≤ last := by omega
      conv => whnf
      repeat (refine ⟨rfl, ?_⟩; conv => whnf)
      have f3 := fin3 hle
      refine ⟨body, v.sig, rfl, rfl, hsg, hp, ?_⟩
      generalize hb : verK (replK v.signer) v.sig voteS (voteP kind view turn slot body) = b
      obtain ⟨hQ, i3⟩ := f3 b hb
      cases b with
      | false =>
        conv => whnf
        repeat (refine ⟨rfl, ?_⟩; conv => whnf)
        refine Eq.mp ?_ hQ
        kernel_rfl
      | true =>
        conv => whnf
        repeat (refine ⟨rfl, ?_⟩; conv => whnf)
        refine R_at ?_ ?_ (hR (i + 1, v.signer) ⟨by dsimp only; omega, i3, .inr ⟨v, by dsimp only; omega, by dsimp only; rw [Nat.add_sub_cancel]; exact hvv, rfl, by dsimp only; omega⟩⟩ (by dsimp only; omega))
        · rw [← hi1]; kernel_rfl
        · kernel_rfl

set_option maxRecDepth 100000 in
theorem sced {T : Tab} (hT : TGood Tryz.prog T) : SGood Tryz.prog 40 (flatT gce) := flatT_good gce_det gce_flat fun args Q h => by
  unfold gce at h
  split at h
  · skip
    obtain ⟨body, votes, rfl, rfl, hp, hv, hQ⟩ := h
    have t0 := ext_good hT (srd hT)
    have t1 := ext_good t0 (sqd t0)
    have t2 := ext_good t1 (srr t1)
    exact body_pure t2 mixedT Tryz.func40 (entersOf Tryz.func40 (by kernel_rfl) rfl) _ (fced_ok _ _ _ _ _ body votes hp hv T Q hQ (votes.length + 1) (Nat.lt_succ_self _))
  · exact h.elim

end Go.Abs

/-
choose.nothing, stable, Right are what they come to.
-/
namespace Go.Abs
open Go Go.Proofs

def nothB (r : RqV) : Bool := cond (r.client == 0) (cond (r.stamp == 0) (cond (((bsA r.op).length : Int) == 0) (((bsA r.sig).length : Int) == 0) false) false) false
def stabB (r : RpV) (n : Int) : Bool := cond (r.low == 0) (cond (((bsA r.digest).length : Int) == 0) (((vtCL r.stable).length : Int) == 0) false)
  (cond (decide (r.low > 0)) (cond (decide (r.low ≤ 1000000)) (cond (r.low.tmod 4 == 0) (cond (((bsA r.digest).length : Int) == 32) (certB 10 0 0 r.low r.digest r.stable n) false) false) false) false)
def prepG (r : RpV) (n : Int) : Int → List PrV → Bool
  | _, [] => true
  | last, p :: l => cond (decide (p.slot ≤ last)) false (cond (decide (p.slot > IntKind.i64.wrap (r.low + 16))) false (cond (decide (cmpB p.bal r.bal ≥ 0)) false (cond (nothB p.req || askB p.req)
      (cond (certB 2 p.bal.view p.bal.turn p.slot (bodyB p.req) p.cert n) (prepG r n p.slot l) false) false)))
theorem prepG_cons (r : RpV) (n last : Int) (p : PrV) (l : List PrV) : prepG r n last (p :: l) = cond (decide (p.slot ≤ last)) false (cond (decide (p.slot > IntKind.i64.wrap (r.low + 16))) false (cond (decide (cmpB p.bal r.bal ≥ 0)) false (cond (nothB p.req || askB p.req)
      (cond (certB 2 p.bal.view p.bal.turn p.slot (bodyB p.req) p.cert n) (prepG r n p.slot l) false) false))) := rfl
def repM (r : RpV) : MsV := { zM with kind := 8, reports := [r] }
def rightR (r : RpV) (n : Int) : Bool := cond (rightB n) (cond (decide (r.replica < 0)) false (cond (decide (r.replica ≥ n)) false (cond (stabB r n) (cond (prepG r n r.low r.preps) (sealOk (repM r) r.replica) false) false))) false
/-- A report of moderate size. -/
structure OkRp (r : RpV) : Prop where
  ok : okRp r
  c : cRp r ≤ 100000000
theorem votP_ok {kind view turn slot : Int} {body : List Int} (hb : okB body) (hl : body.length ≤ 900000000) : okP (voteP kind view turn slot body) := by
  have h3 := encI_len (numsL [kind, view, turn, slot]).length
  have h4 := numsL_len [kind, view, turn, slot]
  have h5 := encI_len (body.length : Int)
  refine ⟨by simp [voteP], fun p hp => ?_, ?_⟩
  · simp only [voteP, List.mem_cons, List.not_mem_nil, or_false] at hp
    rcases hp with rfl | rfl
    · exact numsL_ok _
    · exact hb
  · simp only [packL, voteP, encB, List.map_cons, List.map_nil, List.flatten_cons, List.flatten_nil, List.length_append, List.length_nil, List.length_cons] at *
    omega
theorem sumN_mem {α : Type} (c : α → Nat) : ∀ (l : List α) (x : α), x ∈ l → c x ≤ sumN c l
  | y :: l, x, h => by
    rcases List.mem_cons.1 h with rfl | h
    · rw [sumN_cons]; omega
    · have := sumN_mem c l x h
      rw [sumN_cons]
      omega
theorem prep_ok {r : RpV} (h : OkRp r) {p : PrV} (hp : p ∈ r.preps) : okPr p ∧ okB (bodyB p.req) ∧ (bodyB p.req).length ≤ 900000000 := by
  have h1 := h.ok.2.2.1.2 p hp
  have h2 := sumN_mem cPr r.preps p hp
  have h3 := h.c
  have h4 : cPr p ≤ 100000000 := by unfold cRp at h3; omega
  have h5 : p.req.op.length + p.req.sig.length ≤ 100000000 := by unfold cPr cR cT at h4; omega
  have e1 := encB_len p.req.op
  have e2 := encB_len p.req.sig
  refine ⟨h1, ?_, ?_⟩
  · unfold bodyB
    exact okB_app (okB_app (okB_app (le8_ok' _ _) (le8_ok' _ _)) (okB_app (okB_encI (by omega)) h1.1.1.1)) (okB_app (okB_encI (by omega)) h1.1.2.1)
  · unfold bodyB
    simp only [List.length_append, le8_len]
    omega
theorem repM_ok {r : RpV} (h : OkRp r) : OkM (repM r) ∧ cM (repM r) ≤ 1073741824 := by
  refine ⟨⟨okR_z, okR_z, okT_nil, okT_nil, okVL_nil, okVL_nil, by simp [repM, zM], ⟨by simp [repM, zM], fun _ h => by cases h⟩, ⟨by simp [repM], fun x hx => ?_⟩⟩, ?_⟩
  · simp only [repM, List.mem_singleton] at hx
    subst hx
    exact h.ok
  · have h3 := h.c
    simp only [cM, repM, zM, zR, sumN_cons, sumN_nil, cR, cT, cVs, List.length_nil] at *
    omega

def gno : GSpec := fun args K => match args with
  | [.agg cs] => ∃ r : RqV, cs = rqC r ∧ K (.ret (.bool (nothB r)))
  | _ => False
theorem gno_det (args : List AV) : Det (gno args) := by
  unfold gno
  repeat' (first | exact Det.no | exact Det.at _ | refine Det.and ?_ | refine Det.ex fun _ => ?_ | refine Det.cond ?_ ?_ | split)
theorem gno_flat (args : List AV) (o : AOut) (h : gno args (· = o)) : flatO o = true := by
  unfold gno at h
  split at h
  · obtain ⟨_, _, rfl⟩ := h; rfl
  · exact h.elim

set_option maxRecDepth 100000 in
set_option maxHeartbeats 8000000 in
theorem fno_ok (r : RqV) (T : Tab) (Q : AOut → Prop) (hQ : Q (.ret (.bool (nothB r)))) (N : Nat) :
    abody Tryz.prog T 0 N Tryz.f34 [.agg (rqC r)] [] (fun out Hs => Q (frzO Hs out)) := by
  unfold nothB at hQ
  conv => whnf
  cases h1 : (r.client == 0) with
  | false =>
    rw [h1] at hQ
    conv => whnf
    refine Eq.mp ?_ hQ
    kernel_rfl
  | true =>
    rw [h1] at hQ
    conv => whnf
    cases h2 : (r.stamp == 0) with
    | false =>
      rw [h2] at hQ
      conv => whnf
      refine Eq.mp ?_ hQ
      kernel_rfl
    | true =>
      rw [h2] at hQ
      conv => whnf
      cases h3 : (((bsA r.op).length : Int) == 0) with
      | false =>
        rw [h3] at hQ
        conv => whnf
        refine Eq.mp ?_ hQ
        kernel_rfl
      | true =>
        rw [h3] at hQ
        conv => whnf
        refine Eq.mp ?_ hQ
        kernel_rfl

set_option maxRecDepth 100000 in
theorem sno {T : Tab} (hT : TGood Tryz.prog T) : SGood Tryz.prog 34 (flatT gno) := flatT_good gno_det gno_flat fun args Q h => by
  unfold gno at h
  split at h
  · skip
    obtain ⟨r, rfl, hQ⟩ := h
    exact body_pure hT mixedT Tryz.func34 (entersOf Tryz.func34 (by kernel_rfl) rfl) 0 (fno_ok r T Q hQ 0)
  · exact h.elim

def gst : GSpec := fun args K => match args with
  | [.agg cs, .int .i64 n] => ∃ r : RpV, cs = rpC r ∧ okRp r ∧ K (.ret (.bool (stabB r n)))
  | _ => False
theorem gst_det (args : List AV) : Det (gst args) := by
  unfold gst
  repeat' (first | exact Det.no | exact Det.at _ | refine Det.and ?_ | refine Det.ex fun _ => ?_ | refine Det.cond ?_ ?_ | split)
theorem gst_flat (args : List AV) (o : AOut) (h : gst args (· = o)) : flatO o = true := by
  unfold gst at h
  split at h
  · obtain ⟨_, _, _, rfl⟩ := h; rfl
  · exact h.elim

set_option maxRecDepth 100000 in
set_option maxHeartbeats 8000000 in
theorem fst_ok (r : RpV) (n : Int) (hr : okRp r) (T : Tab) (Q : AOut → Prop) (hQ : Q (.ret (.bool (stabB r n)))) (N : Nat) :
    abody Tryz.prog (ext T 36 (flatT gce)) 0 N Tryz.f32 [.agg (rpC r), .int .i64 n] [] (fun out Hs => Q (frzO Hs out)) := by
  have hdl : ((bsA r.digest).length : Int) = (r.digest.length : Int) := by rw [bsA_length]
  unfold stabB at hQ
  conv => whnf
  cases h0 : (r.low == 0) with
  | true =>
    rw [h0] at hQ
    conv => whnf
    cases h1 : (((bsA r.digest).length : Int) == 0) with
    | false =>
      rw [h1] at hQ
      conv => whnf
      refine Eq.mp ?_ hQ
      kernel_rfl
    | true =>
      rw [h1] at hQ
      conv => whnf
      refine Eq.mp ?_ hQ
      kernel_rfl
  | false =>
    rw [h0] at hQ
    conv => whnf
    cases h1 : decide (r.low > 0) with
    | false =>
      rw [h1] at hQ
      conv => whnf
      refine Eq.mp ?_ hQ
      kernel_rfl
    | true =>
      rw [h1] at hQ
      conv => whnf
      cases h2 : decide (r.low ≤ 1000000) with
      | false =>
        rw [h2] at hQ
        conv => whnf
        refine Eq.mp ?_ hQ
        kernel_rfl
      | true =>
        rw [h2] at hQ
        conv => whnf
        cases h3 : (r.low.tmod 4 == 0) with
        | false =>
          rw [h3] at hQ
          conv => whnf
          refine Eq.mp ?_ hQ
          kernel_rfl
        | true =>
          rw [h3] at hQ
          conv => whnf
          cases h4 : (((bsA r.digest).length : Int) == 32) with
          | false =>
            rw [h4] at hQ
            conv => whnf
            refine Eq.mp ?_ hQ
            kernel_rfl
          | true =>
            rw [h4] at hQ
            replace hQ : Q (.ret (.bool (certB 10 0 0 r.low r.digest r.stable n))) := hQ
            have hdd : r.digest.length = 32 := by have : ((bsA r.digest).length : Int) = 32 := by simpa using h4
                                                  omega
            conv => whnf
            refine ⟨r.digest, r.stable, rfl, rfl, votP_ok hr.1.1 (by omega), hr.2.1, ?_⟩
            generalize certB 10 0 0 r.low r.digest r.stable n = b at hQ ⊢
            conv => whnf
            refine Eq.mp ?_ hQ
            kernel_rfl

set_option maxRecDepth 100000 in
theorem sst {T : Tab} (hT : TGood Tryz.prog T) : SGood Tryz.prog 32 (flatT gst) := flatT_good gst_det gst_flat fun args Q h => by
  unfold gst at h
  split at h
  · skip
    obtain ⟨r, rfl, hr, hQ⟩ := h
    have t0 := ext_good hT (sce hT)
    exact body_pure t0 mixedT Tryz.func32 (entersOf Tryz.func32 (by kernel_rfl) rfl) 0 (fst_ok r _ hr T Q hQ 0)
  · exact h.elim

end Go.Abs

