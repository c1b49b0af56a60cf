/-
vote.nums is what it comes to.
-/
import Derived.Test.YtcjpbmdmomaibaaDoorAbt20
import Derived.Test.YtcjpbmdmomaibaaDoorAbt14
namespace Go.Abs
open Go Go.Proofs

def intsA (xs : List Int) : List (List AV) := xs.map fun x => [.int .i64 x]
def numsL (xs : List Int) : List Int := (xs.map fun x => le8 x 8).flatten
theorem numsL_len (xs : List Int) : (numsL xs).length = 8 * xs.length := by
  induction xs with
  | nil => rfl
  | cons x r ih =>
    simp only [numsL, List.map_cons, List.flatten_cons, List.length_append, le8_len, List.length_cons] at *
    omega
theorem numsL_take {xs : List Int} {i : Nat} {x : Int} (h : xs[i]? = some x) : numsL (xs.take (i + 1)) = numsL (xs.take i) ++ le8 x 8 := by
  unfold numsL
  rw [List.take_add_one, h]
  simp
def accV : List (List AV) → AV
  | [] => .zslice
  | _ :: _ => .row 0
def accH : List (List AV) → Heap
  | [] => []
  | y :: ys => [.row true 5 1 (y :: ys)]
@[simp] theorem intsA_length (xs : List Int) : (intsA xs).length = xs.length := by simp [intsA]

def g137 : GSpec := fun args K => match args with
  | [.slice es] => ∃ xs : List Int, es = intsA xs ∧ xs.length ≤ 1000 ∧ K (.ret (.slice (bsA (numsL xs))))
  | _ => False
theorem g137_det (args : List AV) : Det (g137 args) := by
  unfold g137
  repeat' (first | exact Det.no | exact Det.at _ | refine Det.and ?_ | refine Det.ex fun _ => ?_ | refine Det.cond ?_ ?_ | split)

set_option maxRecDepth 100000 in
set_option maxHeartbeats 8000000 in
theorem f137_ok (xs : List Int) (hx : xs.length ≤ 1000) (T : Tab) (Q : AOut → Prop) (hQ : Q (.ret (.slice (bsA (numsL xs))))) (N : Nat) (hN : xs.length < N) (hN8 : 8 < N) :
    abody Tryd.prog T 0 N Tryd.f137 [.slice (intsA xs)] [] (fun out Hs => Q (frzO Hs out)) := by
  have hxl : (intsA xs).length = xs.length := intsA_length xs
  conv => whnf
  refine aloop_at ?_ ?_ (aloop_inv (σ := Nat × List (List AV)) (fun s => ((sp 0 27 [(3, accV s.2), (7, .slice (intsA xs)), (8, .int .i64 (intsA xs).length), (9, .int .i64 (s.1 : Nat))]), accH s.2))
    (fun s => s.1 ≤ xs.length ∧ s.2 = bsA (numsL (xs.take s.1))) (fun s => xs.length - s.1) ?_ N (0, []) ⟨Nat.zero_le _, by simp [numsL, bsA]⟩ (by dsimp only; omega))
  · kernel_rfl
  · kernel_rfl
  rintro ⟨i, acc⟩ ⟨hi, hacc⟩ R hR
  dsimp only at hi hacc
  have hlen0 : acc.length = 8 * min i xs.length := by rw [hacc, bsA_length, numsL_len, List.length_take]
  have hi1 : IntKind.i64.wrap ((i : Int) + 1) = ((i + 1 : Nat) : Int) := by rw [IntWalk.i64_in _ (by omega)]; omega
  have hout0 : i = xs.length → acc = bsA (numsL xs) := fun h => by rw [hacc, h, List.take_length]
  have hin : ∀ x, acc = bsA (numsL (xs.take i) ++ le8 x 0) := fun x => by simp [le8, hacc]
  clear hacc
  rcases acc with _ | ⟨y, ys⟩
  all_goals
    conv => whnf
    split
    rotate_left
    · rename_i h2; have h2 := of_decide_eq_false h2
      rw [hxl] at h2
      have hil : i = xs.length := by omega
      rw [← hout0 hil] at hQ
      conv => whnf
      refine Eq.mp ?_ hQ
      kernel_rfl
    rename_i h2; have h2 := of_decide_eq_true h2
    rw [hxl] at h2
    obtain ⟨x, hxi⟩ : ∃ x, xs[i]? = some x := ⟨_, List.getElem?_eq_getElem (by omega)⟩
    have hget : (intsA xs)[((i : Nat) : Int).toNat]? = some [.int .i64 x] := by
      rw [Int.toNat_natCast]; simp [intsA, hxi]
    have hnx := numsL_take hxi
    conv => whnf
    refine ⟨by omega, by rw [hxl]; omega, [.int .i64 x], hget, by kernel_rfl, ?_⟩
    conv => whnf
    refine aloop_at ?_ ?_ (aloop_inv (σ := Nat × List (List AV)) (fun s => ((sp 0 27 [(3, accV s.2), (5, .int .i64 x), (7, .slice (intsA xs)), (8, .int .i64 (intsA xs).length), (9, .int .i64 (i : Nat)), (13, .int .i64 (s.1 : Nat))]), accH s.2))
      (fun s => s.1 ≤ 8 ∧ s.2 = bsA (numsL (xs.take i) ++ le8 x s.1)) (fun s => 8 - s.1) ?_ N (0, _) ⟨Nat.zero_le _, hin x⟩ (by dsimp only; omega))
    · kernel_rfl
    · kernel_rfl
    rintro ⟨j, ac⟩ ⟨hj, hac⟩ R2 hR2
    dsimp only at hj hac
    have hlen : ac.length = 8 * min i xs.length + j := by rw [hac, bsA_length, List.length_append, numsL_len, List.length_take, le8_len]
    have hnext : ac ++ bsA [byteOf x j] = bsA (numsL (xs.take i) ++ le8 x (j + 1)) := by rw [hac, ← bsA_append, List.append_assoc]; rfl
    have hel : ∀ el ∈ ac, el.length = 1 := by rw [hac]; exact fun el hel => bsA_el hel
    have hout : j = 8 → ac = bsA (numsL (xs.take (i + 1))) := fun h => by rw [hac, h, hnx]
    clear hac
    have hj1 : IntKind.i64.wrap ((j : Int) + 1) = ((j + 1 : Nat) : Int) := by rw [IntWalk.i64_in _ (by omega)]; omega
    rcases ac with _ | ⟨z, zs⟩
    all_goals
      conv => whnf
      split
      rotate_left
      · rename_i h3
        have h3 : ¬ (j : Int) < 8 := of_decide_eq_false h3
        have h8 : j = 8 := by omega
        conv => whnf
        have hR3 := hR (i + 1, _) ⟨by dsimp only; omega, hout h8⟩ (by dsimp only; omega)
        dsimp only at hR3
        rw [← hi1] at hR3
        refine R_at ?_ ?_ hR3
        · kernel_rfl
        · kernel_rfl
      rename_i h3
      have h3 : (j : Int) < 8 := of_decide_eq_true h3
      have hsh : 0 ≤ IntKind.i64.wrap (8 * (j : Int)) := by rw [IntWalk.i64_in _ (by omega)]; omega
      conv => whnf
      split
      rotate_left
      · rename_i h4
        exact absurd hsh (of_decide_eq_false h4)
      conv => whnf
      refine ⟨fits_at (ys' := bsA [byteOf x j]) (by kernel_rfl) (fits_bs (by rw [List.length_singleton]; first | omega | (dsimp only; omega))), ?_⟩
      conv => whnf
      have hR3 := hR2 (j + 1, _ ++ bsA [byteOf x j]) ⟨by dsimp only; omega, hnext⟩ (by dsimp only; omega)
      dsimp only at hR3
      rw [← hj1] at hR3
      refine R_at ?_ ?_ hR3
      · kernel_rfl
      · kernel_rfl

set_option maxRecDepth 100000 in
theorem s137 {T : Tab} (hT : TGood Tryd.prog T) : SGood Tryd.prog 137 (pureT g137) := pureT_good g137_det fun args Q h => by
  unfold g137 at h
  split at h
  · obtain ⟨xs, rfl, hx, hQ⟩ := h
    exact body_pure hT mixedT Tryd.func137 (entersOf Tryd.func137 (by kernel_rfl) rfl) (xs.length + 9) (f137_ok xs hx T Q hQ _ (by omega) (by omega))
  · exact h.elim
end Go.Abs

/-
key.Verify; vote.voted, its methods, Make, Right are what they come to.
-/
namespace Go.Abs
open Go Go.Proofs

theorem signK_ok (k : Int) (s : ByteArray) (ps : List (List Int)) : okB (signK k s ps) := by
  unfold signK
  cases rightK k with
  | false => exact fun _ h => by cases h
  | true => exact shaL_ok _
def voteS : ByteArray := ⟨#[118, 111, 116, 101]⟩
def verK (k : Int) (sg : List Int) (s : ByteArray) (ps : List (List Int)) : Bool := rightK k && decide (sg = signK k s ps)

def g138 : GSpec := fun args K => match args with
  | [.int .i64 k, .slice es, .str s, .slice fs] => ∃ (sg : List Int) (ps : List (List Int)), es = bsA sg ∧ fs = partsA ps ∧ okB sg ∧ okP ps ∧ s.size ≤ 1000 ∧ K (.ret (.bool (verK k sg s ps)))
  | _ => False
theorem g138_det (args : List AV) : Det (g138 args) := by
  unfold g138
  repeat' (first | exact Det.no | exact Det.at _ | refine Det.and ?_ | refine Det.ex fun _ => ?_ | refine Det.cond ?_ ?_ | split)
theorem g138_flat (args : List AV) (o : AOut) (h : g138 args (· = o)) : flatO o = true := by
  unfold g138 at h
  split at h
  · obtain ⟨_, _, _, _, _, _, _, rfl⟩ := h; rfl
  · exact h.elim
def g119 : GSpec := fun args K => match args with
  | [.agg [.int .i64 k, .str s, .slice fs], .slice es] => ∃ (sg : List Int) (ps : List (List Int)), es = bsA sg ∧ fs = partsA ps ∧ okB sg ∧ okP ps ∧ s.size ≤ 1000 ∧ K (.ret (.bool (verK k sg s ps)))
  | _ => False
theorem g119_det (args : List AV) : Det (g119 args) := by
  unfold g119
  repeat' (first | exact Det.no | exact Det.at _ | refine Det.and ?_ | refine Det.ex fun _ => ?_ | refine Det.cond ?_ ?_ | split)
theorem g119_flat (args : List AV) (o : AOut) (h : g119 args (· = o)) : flatO o = true := by
  unfold g119 at h
  split at h
  · obtain ⟨_, _, _, _, _, _, _, rfl⟩ := h; rfl
  · exact h.elim
def methG (f : Int → ByteArray → List (List Int) → List Int) : GSpec := fun args K => match args with
  | [.agg [.int .i64 k, .str s, .slice es]] => ∃ ps, es = partsA ps ∧ okP ps ∧ s.size ≤ 1000 ∧ K (.ret (.slice (bsA (f k s ps))))
  | _ => False
theorem methG_det (f : Int → ByteArray → List (List Int) → List Int) (args : List AV) : Det (methG f args) := by
  unfold methG
  repeat' (first | exact Det.no | exact Det.at _ | refine Det.and ?_ | refine Det.ex fun _ => ?_ | refine Det.cond ?_ ?_ | split)
def voteP (kind view turn slot : Int) (body : List Int) : List (List Int) := [numsL [kind, view, turn, slot], body]

set_option maxRecDepth 100000 in
theorem f138_ok (k : Int) (sg : List Int) (s : ByteArray) (ps : List (List Int)) (hsg : okB sg) (hp : okP ps) (hs : s.size ≤ 1000) (T : Tab) (Q : AOut → Prop) (hQ : Q (.ret (.bool (verK k sg s ps)))) (N : Nat) :
    abody Tryd.prog (ext (ext (ext T 139 (flatT g139)) 121 (pureT (txtG signK))) 71 (flatT g18)) 0 N Tryd.f138 [.int .i64 k, .slice (bsA sg), .str s, .slice (partsA ps)] [] (fun out Hs => Q (frzO Hs out)) := by
  unfold verK at hQ
  conv => whnf
  cases hr : rightK k with
  | false =>
    rw [hr] at hQ
    conv => whnf
    refine Eq.mp ?_ hQ
    kernel_rfl
  | true =>
    rw [hr] at hQ
    conv => whnf
    refine ⟨ps, rfl, hp, hs, ?_⟩
    conv => whnf
    refine ⟨sg, signK k s ps, rfl, rfl, hsg, signK_ok k s ps, ?_⟩
    conv => whnf
    refine Eq.mp ?_ hQ
    kernel_rfl
set_option maxRecDepth 100000 in
theorem f119_ok (k : Int) (sg : List Int) (s : ByteArray) (ps : List (List Int)) (hsg : okB sg) (hp : okP ps) (hs : s.size ≤ 1000) (T : Tab) (Q : AOut → Prop) (hQ : Q (.ret (.bool (verK k sg s ps)))) (N : Nat) :
    abody Tryd.prog (ext T 138 (flatT g138)) 0 N Tryd.f119 [.agg [.int .i64 k, .str s, .slice (partsA ps)], .slice (bsA sg)] [] (fun out Hs => Q (frzO Hs out)) := by
  conv => whnf
  refine ⟨sg, ps, rfl, rfl, hsg, hp, hs, ?_⟩
  conv => whnf
  refine Eq.mp ?_ hQ
  kernel_rfl
set_option maxRecDepth 100000 in
theorem f68_ok (k : Int) (s : ByteArray) (ps : List (List Int)) (hp : okP ps) (hs : s.size ≤ 1000) (T : Tab) (Q : AOut → Prop) (hQ : Q (.ret (.slice (bsA (signK k s ps))))) (N : Nat) :
    abody Tryd.prog (ext T 121 (pureT (txtG signK))) 0 N Tryd.f68 [.agg [.int .i64 k, .str s, .slice (partsA ps)]] [] (fun out Hs => Q (frzO Hs out)) := by
  conv => whnf
  refine ⟨ps, rfl, hp, hs, ?_⟩
  conv => whnf
  refine Eq.mp ?_ hQ
  kernel_rfl
set_option maxRecDepth 100000 in
theorem s68 {T : Tab} (hT : TGood Tryd.prog T) : SGood Tryd.prog 68 (pureT (methG signK)) := pureT_good (methG_det signK) fun args Q h => by
  unfold methG at h
  split at h
  · obtain ⟨ps, rfl, hp, hs, hQ⟩ := h
    exact body_pure (ext_good hT (s121 hT)) mixedT Tryd.func68 (entersOf Tryd.func68 (by kernel_rfl) rfl) 0 (f68_ok _ _ ps hp hs T Q hQ 0)
  · exact h.elim
set_option maxRecDepth 100000 in
theorem f70_ok (k : Int) (s : ByteArray) (ps : List (List Int)) (hp : okP ps) (hs : s.size ≤ 1000) (T : Tab) (Q : AOut → Prop) (hQ : Q (.ret (.slice (bsA (textK k s ps))))) (N : Nat) :
    abody Tryd.prog (ext T 122 (pureT (txtG textK))) 0 N Tryd.f70 [.agg [.int .i64 k, .str s, .slice (partsA ps)]] [] (fun out Hs => Q (frzO Hs out)) := by
  conv => whnf
  refine ⟨ps, rfl, hp, hs, ?_⟩
  conv => whnf
  refine Eq.mp ?_ hQ
  kernel_rfl
set_option maxRecDepth 100000 in
theorem s70 {T : Tab} (hT : TGood Tryd.prog T) : SGood Tryd.prog 70 (pureT (methG textK)) := pureT_good (methG_det textK) fun args Q h => by
  unfold methG at h
  split at h
  · obtain ⟨ps, rfl, hp, hs, hQ⟩ := h
    exact body_pure (ext_good hT (s122 hT)) mixedT Tryd.func70 (entersOf Tryd.func70 (by kernel_rfl) rfl) 0 (f70_ok _ _ ps hp hs T Q hQ 0)
  · exact h.elim
set_option maxRecDepth 100000 in
theorem s138 {T : Tab} (hT : TGood Tryd.prog T) : SGood Tryd.prog 138 (flatT g138) := flatT_good g138_det g138_flat fun args Q h => by
  unfold g138 at h
  split at h
  · obtain ⟨sg, ps, rfl, rfl, hsg, hp, hs, hQ⟩ := h
    have t0 := ext_good hT (s139 hT)
    have t1 := ext_good t0 (s121 t0)
    have t2 := ext_good t1 (s71 t1)
    exact body_pure t2 mixedT Tryd.func138 (entersOf Tryd.func138 (by kernel_rfl) rfl) 0 (f138_ok _ sg _ ps hsg hp hs T Q hQ 0)
  · exact h.elim
set_option maxRecDepth 100000 in
theorem s119 {T : Tab} (hT : TGood Tryd.prog T) : SGood Tryd.prog 119 (flatT g119) := flatT_good g119_det g119_flat fun args Q h => by
  unfold g119 at h
  split at h
  · obtain ⟨sg, ps, rfl, rfl, hsg, hp, hs, hQ⟩ := h
    have t0 := ext_good hT (s138 hT)
    exact body_pure t0 mixedT Tryd.func119 (entersOf Tryd.func119 (by kernel_rfl) rfl) 0 (f119_ok _ sg _ ps hsg hp hs T Q hQ 0)
  · exact h.elim

def g118 : GSpec := fun args K => match args with
  | [.int .i64 kind, .agg [.int .i64 view, .int .i64 turn], .int .i64 slot, .slice es, .int .i64 signer] => ∃ body : List Int, es = bsA body ∧ K (.ret (.agg [.int .i64 (replK signer), .str voteS, .slice (partsA (voteP kind view turn slot body))]))
  | _ => False
theorem g118_det (args : List AV) : Det (g118 args) := by
  unfold g118
  repeat' (first | exact Det.no | exact Det.at _ | refine Det.and ?_ | refine Det.ex fun _ => ?_ | refine Det.cond ?_ ?_ | split)
set_option maxRecDepth 100000 in
theorem f118_ok (kind view turn slot signer : Int) (body : List Int) (T : Tab) (Q : AOut → Prop) (hQ : Q (.ret (.agg [.int .i64 (replK signer), .str voteS, .slice (partsA (voteP kind view turn slot body))]))) (N : Nat) :
    abody Tryd.prog (ext (ext T 120 (flatT g120)) 137 (pureT g137)) 0 N Tryd.f118 [.int .i64 kind, .agg [.int .i64 view, .int .i64 turn], .int .i64 slot, .slice (bsA body), .int .i64 signer] [] (fun out Hs => Q (frzO Hs out)) := by
  conv => whnf
  refine ⟨[8, 9, 11, 13], ?_⟩
  conv => whnf
  refine ⟨rfl, ?_⟩
  conv => whnf
  refine ⟨by (conv => whnf); exact ⟨rfl, rfl⟩, ?_⟩
  conv => whnf
  refine ⟨[kind, view, turn, slot], by kernel_rfl, by show 4 ≤ 1000; decide, ?_⟩
  conv => whnf
  repeat (refine ⟨rfl, ?_⟩; conv => whnf)
  repeat (refine ⟨by (conv => whnf); exact ⟨rfl, rfl⟩, ?_⟩; conv => whnf)
  refine Eq.mp ?_ hQ
  kernel_rfl
set_option maxRecDepth 100000 in
theorem s118 {T : Tab} (hT : TGood Tryd.prog T) : SGood Tryd.prog 118 (pureT g118) := pureT_good g118_det fun args Q h => by
  unfold g118 at h
  split at h
  · obtain ⟨body, rfl, hQ⟩ := h
    have t0 := ext_good hT (s120 hT)
    exact body_pure (ext_good t0 (s137 t0)) mixedT Tryd.func118 (entersOf Tryd.func118 (by kernel_rfl) rfl) 0 (f118_ok _ _ _ _ _ body T Q hQ 0)
  · exact h.elim

def g65 : GSpec := fun args K => match args with
  | [.int .i64 kind, .agg [.int .i64 view, .int .i64 turn], .int .i64 slot, .slice es, .int .i64 signer] => ∃ body : List Int, es = bsA body ∧ okP (voteP kind view turn slot body) ∧ K (.ret (.agg [.int .i64 signer, .slice (bsA (signK (replK signer) voteS (voteP kind view turn slot body)))]))
  | _ => False
theorem g65_det (args : List AV) : Det (g65 args) := by
  unfold g65
  repeat' (first | exact Det.no | exact Det.at _ | refine Det.and ?_ | refine Det.ex fun _ => ?_ | refine Det.cond ?_ ?_ | split)
def g66 : GSpec := fun args K => match args with
  | [.int .i64 kind, .agg [.int .i64 view, .int .i64 turn], .int .i64 slot, .slice es, .agg [.int .i64 signer, .slice fs]] => ∃ body sg : List Int, es = bsA body ∧ fs = bsA sg ∧ okB sg ∧ okP (voteP kind view turn slot body) ∧ K (.ret (.bool (verK (replK signer) sg voteS (voteP kind view turn slot body))))
  | _ => False
theorem g66_det (args : List AV) : Det (g66 args) := by
  unfold g66
  repeat' (first | exact Det.no | exact Det.at _ | refine Det.and ?_ | refine Det.ex fun _ => ?_ | refine Det.cond ?_ ?_ | split)
theorem g66_flat (args : List AV) (o : AOut) (h : g66 args (· = o)) : flatO o = true := by
  unfold g66 at h
  split at h
  · obtain ⟨_, _, _, _, _, _, rfl⟩ := h; rfl
  · exact h.elim
set_option maxRecDepth 100000 in
theorem f65_ok (kind view turn slot signer : Int) (body : List Int) (hp : okP (voteP kind view turn slot body)) (T : Tab) (Q : AOut → Prop) (hQ : Q (.ret (.agg [.int .i64 signer, .slice (bsA (signK (replK signer) voteS (voteP kind view turn slot body)))]))) (N : Nat) :
    abody Tryd.prog (ext (ext T 118 (pureT g118)) 68 (pureT (methG signK))) 0 N Tryd.f65 [.int .i64 kind, .agg [.int .i64 view, .int .i64 turn], .int .i64 slot, .slice (bsA body), .int .i64 signer] [] (fun out Hs => Q (frzO Hs out)) := by
  conv => whnf
  refine ⟨body, rfl, ?_⟩
  conv => whnf
  refine ⟨voteP kind view turn slot body, rfl, hp, by decide, ?_⟩
  conv => whnf
  refine Eq.mp ?_ hQ
  kernel_rfl
set_option maxRecDepth 100000 in
theorem f66_ok (kind view turn slot signer : Int) (body sg : List Int) (hp : okP (voteP kind view turn slot body)) (hsg : okB sg) (T : Tab) (Q : AOut → Prop) (hQ : Q (.ret (.bool (verK (replK signer) sg voteS (voteP kind view turn slot body))))) (N : Nat) :
    abody Tryd.prog (ext (ext T 118 (pureT g118)) 119 (flatT g119)) 0 N Tryd.f66 [.int .i64 kind, .agg [.int .i64 view, .int .i64 turn], .int .i64 slot, .slice (bsA body), .agg [.int .i64 signer, .slice (bsA sg)]] [] (fun out Hs => Q (frzO Hs out)) := by
  conv => whnf
  refine ⟨[], ?_⟩
  conv => whnf
  refine ⟨body, rfl, ?_⟩
  conv => whnf
  repeat (refine ⟨rfl, ?_⟩; conv => whnf)
  refine ⟨sg, voteP kind view turn slot body, rfl, rfl, hsg, hp, by decide, ?_⟩
  conv => whnf
  repeat (refine ⟨rfl, ?_⟩; conv => whnf)
  refine Eq.mp ?_ hQ
  kernel_rfl
set_option maxRecDepth 100000 in
theorem s65 {T : Tab} (hT : TGood Tryd.prog T) : SGood Tryd.prog 65 (pureT g65) := pureT_good g65_det fun args Q h => by
  unfold g65 at h
  split at h
  · obtain ⟨body, rfl, hp, hQ⟩ := h
    have t0 := ext_good hT (s118 hT)
    exact body_pure (ext_good t0 (s68 t0)) mixedT Tryd.func65 (entersOf Tryd.func65 (by kernel_rfl) rfl) 0 (f65_ok _ _ _ _ _ body hp T Q hQ 0)
  · exact h.elim
set_option maxRecDepth 100000 in
theorem s66 {T : Tab} (hT : TGood Tryd.prog T) : SGood Tryd.prog 66 (flatT g66) := flatT_good g66_det g66_flat fun args Q h => by
  unfold g66 at h
  split at h
  · obtain ⟨body, sg, rfl, rfl, hsg, hp, hQ⟩ := h
    have t0 := ext_good hT (s118 hT)
    exact body_pure (ext_good t0 (s119 t0)) mixedT Tryd.func66 (entersOf Tryd.func66 (by kernel_rfl) rfl) 0 (f66_ok _ _ _ _ _ body sg hp hsg T Q hQ 0)
  · exact h.elim

end Go.Abs

/-
Two hashes of the alive test, computed.
-/
namespace Go.Abs
open Go Go.Proofs

def v8Eq (a b : V8) : Bool := decide (a.a = b.a) && (decide (a.b = b.b) && (decide (a.c = b.c) && (decide (a.d = b.d) && (decide (a.e = b.e) && (decide (a.f = b.f) && (decide (a.g = b.g) && decide (a.h = b.h)))))))
theorem v8Eq_eq {a b : V8} (h : v8Eq a b = true) : a = b := by
  obtain ⟨a1, a2, a3, a4, a5, a6, a7, a8⟩ := a
  obtain ⟨b1, b2, b3, b4, b5, b6, b7, b8⟩ := b
  simp only [v8Eq, Bool.and_eq_true, decide_eq_true_eq] at h
  obtain ⟨rfl, rfl, rfl, rfl, rfl, rfl, rfl, rfl⟩ := h
  rfl
def stepW (l wl : List Int) (n : Nat) : Int := if n < 16 then wFirst l n else wLater (fun j => wl.getD j 0) n
theorem words_eval (l wl : List Int) (h : (List.range 64).all (fun n => decide (stepW l wl n = wl.getD n 0)) = true) : ∀ n, n ≤ 64 → ∀ j, j < n → wordsN l n j = wl.getD j 0
  | 0, _, j, hj => absurd hj (Nat.not_lt_zero _)
  | n + 1, hn, j, hj => by
    have ih := words_eval l wl h n (by omega)
    simp only [wordsN]
    by_cases hjn : j = n
    · subst hjn
      rw [if_pos rfl]
      have hs : stepW l wl j = wl.getD j 0 := of_decide_eq_true (List.all_eq_true.1 h j (List.mem_range.2 (by omega)))
      rw [← hs]
      unfold stepW
      by_cases h16 : j < 16
      · rw [if_pos h16, if_pos h16]
      · rw [if_neg h16, if_neg h16]
        unfold wLater
        rw [ih (j - 2) (by omega), ih (j - 7) (by omega), ih (j - 15) (by omega), ih (j - 16) (by omega)]
    · rw [if_neg hjn]
      exact ih j (by omega)
theorem rounds_eval (s : V8) (w : Nat → Int) (wl : List Int) (vl : List V8) (hw : ∀ j, j < 64 → w j = wl.getD j 0) (h0 : vl.getD 0 z8 = s)
    (h : (List.range 64).all (fun t => v8Eq (rnd (kF t) (wl.getD t 0) (vl.getD t z8)) (vl.getD (t + 1) z8)) = true) : ∀ t, t ≤ 64 → rounds s w t = vl.getD t z8
  | 0, _ => h0.symm
  | t + 1, ht => by
    have ih := rounds_eval s w wl vl hw h0 h t (by omega)
    show rnd (kF t) (w t) (rounds s w t) = _
    rw [ih, hw t (by omega)]
    exact v8Eq_eq (List.all_eq_true.1 h t (List.mem_range.2 (by omega)))
theorem blk_eval (s : V8) (l wl : List Int) (vl : List V8) (h1 : (List.range 64).all (fun n => decide (stepW l wl n = wl.getD n 0)) = true) (h0 : vl.getD 0 z8 = s)
    (h : (List.range 64).all (fun t => v8Eq (rnd (kF t) (wl.getD t 0) (vl.getD t z8)) (vl.getD (t + 1) z8)) = true) : blk s l = add8 s (vl.getD 64 z8) := by
  unfold blk
  rw [rounds_eval s _ wl vl (fun j hj => words_eval l wl h1 64 (Nat.le_refl _) j hj) h0 h 64 (Nat.le_refl _)]

def aP1 : List Int := ([4, 115, 105, 103, 110, 1, 4, 4, 118, 111, 116, 101, 32, 2, 0, 0] ++ [0, 0, 0, 0, 0, 1, 0, 0, 0, 0, 0, 0, 0, 0, 0, 0] ++ [0, 0, 0, 0, 0, 3, 0, 0, 0, 0, 0, 0, 0, 1, 120, 128] ++ [0, 0, 0, 0, 0, 0, 0, 0, 0, 0, 0, 0, 0, 0, 1, 120])
def aW1 : List Int := ([74672487, 1845560324, 1987015781, 537001984, 0, 65536, 0, 0, 0, 196608, 0, 96384, 0, 0, 0, 376] ++ [1217634927, 2278322691, 2686034584, 3613540355, 624387175, 1748322765, 1589001564, 1448654525, 551477509, 3988339298, 3794563504, 3749650956, 520892444, 3559287028, 3837855317, 1497980087] ++ [3852292833, 1035544733, 267446053, 3149271625, 779698497, 1417024455, 2655762658, 3181351076, 2698479098, 2583805565, 2602492771, 782826268, 2324656637, 3424466571, 737861184, 3280561423] ++ [745347007, 3910649538, 1750141887, 965509586, 2686500974, 2317054685, 2496236647, 3242889846, 158640525, 2317728721, 2582651698, 1874185025, 1849538659, 4034059994, 3072431350, 1069743327])
def aV1 : List V8 := [⟨1779033703, 3144134277, 1013904242, 2773480762, 1359893119, 2600822924, 528734635, 1541459225⟩, ⟨8122804, 1779033703, 3144134277, 1013904242, 2637909001, 1359893119, 2600822924, 528734635⟩, ⟨3650086844, 8122804, 1779033703, 3144134277, 2300232918, 2637909001, 1359893119, 2600822924⟩, ⟨1779630242, 3650086844, 8122804, 1779033703, 2840789117, 2300232918, 2637909001, 1359893119⟩, ⟨1682034169, 1779630242, 3650086844, 8122804, 2996484500, 2840789117, 2300232918, 2637909001⟩, ⟨1184219451, 1682034169, 1779630242, 3650086844, 2904635478, 2996484500, 2840789117, 2300232918⟩, ⟨971605577, 1184219451, 1682034169, 1779630242, 502006352, 2904635478, 2996484500, 2840789117⟩, ⟨640070190, 971605577, 1184219451, 1682034169, 1364026142, 502006352, 2904635478, 2996484500⟩, ⟨2151116050, 640070190, 971605577, 1184219451, 1000575930, 1364026142, 502006352, 2904635478⟩, ⟨506152050, 2151116050, 640070190, 971605577, 795594404, 1000575930, 1364026142, 502006352⟩, ⟨2896977359, 506152050, 2151116050, 640070190, 3613562792, 795594404, 1000575930, 1364026142⟩, ⟨3435117546, 2896977359, 506152050, 2151116050, 2996163619, 3613562792, 795594404, 1000575930⟩, ⟨2411182835, 3435117546, 2896977359, 506152050, 4037650918, 2996163619, 3613562792, 795594404⟩] ++ [⟨3306167382, 2411182835, 3435117546, 2896977359, 1809926046, 4037650918, 2996163619, 3613562792⟩, ⟨2767405251, 3306167382, 2411182835, 3435117546, 1885630239, 1809926046, 4037650918, 2996163619⟩, ⟨2202650461, 2767405251, 3306167382, 2411182835, 2821943611, 1885630239, 1809926046, 4037650918⟩, ⟨3909598426, 2202650461, 2767405251, 3306167382, 1984632290, 2821943611, 1885630239, 1809926046⟩, ⟨2902357157, 3909598426, 2202650461, 2767405251, 2388983665, 1984632290, 2821943611, 1885630239⟩, ⟨164267773, 2902357157, 3909598426, 2202650461, 3450693242, 2388983665, 1984632290, 2821943611⟩, ⟨312555429, 164267773, 2902357157, 3909598426, 2358980153, 3450693242, 2388983665, 1984632290⟩, ⟨4085601683, 312555429, 164267773, 2902357157, 1447333662, 2358980153, 3450693242, 2388983665⟩, ⟨2158817914, 4085601683, 312555429, 164267773, 3573663978, 1447333662, 2358980153, 3450693242⟩, ⟨649658666, 2158817914, 4085601683, 312555429, 497499257, 3573663978, 1447333662, 2358980153⟩, ⟨1605886921, 649658666, 2158817914, 4085601683, 1789914396, 497499257, 3573663978, 1447333662⟩, ⟨3824509896, 1605886921, 649658666, 2158817914, 982824382, 1789914396, 497499257, 3573663978⟩, ⟨506024089, 3824509896, 1605886921, 649658666, 1139505781, 982824382, 1789914396, 497499257⟩] ++ [⟨300417416, 506024089, 3824509896, 1605886921, 1927994837, 1139505781, 982824382, 1789914396⟩, ⟨2651786389, 300417416, 506024089, 3824509896, 1101070193, 1927994837, 1139505781, 982824382⟩, ⟨1961929190, 2651786389, 300417416, 506024089, 4221544432, 1101070193, 1927994837, 1139505781⟩, ⟨2204879042, 1961929190, 2651786389, 300417416, 2080701352, 4221544432, 1101070193, 1927994837⟩, ⟨1295594361, 2204879042, 1961929190, 2651786389, 2127022296, 2080701352, 4221544432, 1101070193⟩, ⟨3038604969, 1295594361, 2204879042, 1961929190, 3781759289, 2127022296, 2080701352, 4221544432⟩, ⟨1282600634, 3038604969, 1295594361, 2204879042, 3464091682, 3781759289, 2127022296, 2080701352⟩, ⟨2827109123, 1282600634, 3038604969, 1295594361, 2973789188, 3464091682, 3781759289, 2127022296⟩, ⟨2226053350, 2827109123, 1282600634, 3038604969, 715377476, 2973789188, 3464091682, 3781759289⟩, ⟨4142408127, 2226053350, 2827109123, 1282600634, 29795946, 715377476, 2973789188, 3464091682⟩, ⟨158104491, 4142408127, 2226053350, 2827109123, 1618069449, 29795946, 715377476, 2973789188⟩, ⟨1739536343, 158104491, 4142408127, 2226053350, 3696697215, 1618069449, 29795946, 715377476⟩, ⟨3050756944, 1739536343, 158104491, 4142408127, 4144618341, 3696697215, 1618069449, 29795946⟩] ++ [⟨1214354332, 3050756944, 1739536343, 158104491, 1824382675, 4144618341, 3696697215, 1618069449⟩, ⟨3701167219, 1214354332, 3050756944, 1739536343, 2003559808, 1824382675, 4144618341, 3696697215⟩, ⟨519553492, 3701167219, 1214354332, 3050756944, 1877551015, 2003559808, 1824382675, 4144618341⟩, ⟨1903407502, 519553492, 3701167219, 1214354332, 4097598298, 1877551015, 2003559808, 1824382675⟩, ⟨2352021684, 1903407502, 519553492, 3701167219, 2562024511, 4097598298, 1877551015, 2003559808⟩, ⟨2269112306, 2352021684, 1903407502, 519553492, 1690093372, 2562024511, 4097598298, 1877551015⟩, ⟨2352319686, 2269112306, 2352021684, 1903407502, 3291849413, 1690093372, 2562024511, 4097598298⟩, ⟨3898619591, 2352319686, 2269112306, 2352021684, 3130280626, 3291849413, 1690093372, 2562024511⟩, ⟨2898612837, 3898619591, 2352319686, 2269112306, 3754187586, 3130280626, 3291849413, 1690093372⟩, ⟨3995777682, 2898612837, 3898619591, 2352319686, 3685738429, 3754187586, 3130280626, 3291849413⟩, ⟨2405016123, 3995777682, 2898612837, 3898619591, 1765238769, 3685738429, 3754187586, 3130280626⟩, ⟨2228334503, 2405016123, 3995777682, 2898612837, 711276477, 1765238769, 3685738429, 3754187586⟩, ⟨62212885, 2228334503, 2405016123, 3995777682, 1198137168, 711276477, 1765238769, 3685738429⟩] ++ [⟨3887616426, 62212885, 2228334503, 2405016123, 2158511524, 1198137168, 711276477, 1765238769⟩, ⟨1027776614, 3887616426, 62212885, 2228334503, 1860924612, 2158511524, 1198137168, 711276477⟩, ⟨2954810145, 1027776614, 3887616426, 62212885, 2254399145, 1860924612, 2158511524, 1198137168⟩, ⟨3736617567, 2954810145, 1027776614, 3887616426, 2668366164, 2254399145, 1860924612, 2158511524⟩, ⟨1349555470, 3736617567, 2954810145, 1027776614, 2008320546, 2668366164, 2254399145, 1860924612⟩, ⟨1787278815, 1349555470, 3736617567, 2954810145, 3646350256, 2008320546, 2668366164, 2254399145⟩, ⟨3281327050, 1787278815, 1349555470, 3736617567, 2926939308, 3646350256, 2008320546, 2668366164⟩, ⟨1930788658, 3281327050, 1787278815, 1349555470, 2486941807, 2926939308, 3646350256, 2008320546⟩, ⟨2221197320, 1930788658, 3281327050, 1787278815, 1083578001, 2486941807, 2926939308, 3646350256⟩, ⟨410698929, 2221197320, 1930788658, 3281327050, 3446664273, 1083578001, 2486941807, 2926939308⟩, ⟨2806164005, 410698929, 2221197320, 1930788658, 3521002276, 3446664273, 1083578001, 2486941807⟩, ⟨2602417490, 2806164005, 410698929, 2221197320, 1467706978, 3521002276, 3446664273, 1083578001⟩, ⟨4006286488, 2602417490, 2806164005, 410698929, 2637050522, 1467706978, 3521002276, 3446664273⟩]
set_option maxRecDepth 100000 in
theorem aBlk1 : blk h0 aP1 = add8 h0 (aV1.getD 64 z8) := blk_eval h0 aP1 aW1 aV1 (by kernel_rfl) (by kernel_rfl) (by kernel_rfl)
set_option maxRecDepth 100000 in
theorem aSig1 : signK 4 voteS (voteP 2 1 0 3 [120]) = outN (add8 h0 (aV1.getD 64 z8)) 8 := by
  have h1 : packL (textP 4 voteS (voteP 2 1 0 3 [120])) = ([4, 115, 105, 103, 110, 1, 4, 4, 118, 111, 116, 101, 32, 2, 0, 0] ++ [0, 0, 0, 0, 0, 1, 0, 0, 0, 0, 0, 0, 0, 0, 0, 0] ++ [0, 0, 0, 0, 0, 3, 0, 0, 0, 0, 0, 0, 0, 1, 120]) := by kernel_rfl
  have h2 : signK 4 voteS (voteP 2 1 0 3 [120]) = shaL (packL (textP 4 voteS (voteP 2 1 0 3 [120]))) := by unfold signK; rfl
  have h3 : padB ([4, 115, 105, 103, 110, 1, 4, 4, 118, 111, 116, 101, 32, 2, 0, 0] ++ [0, 0, 0, 0, 0, 1, 0, 0, 0, 0, 0, 0, 0, 0, 0, 0] ++ [0, 0, 0, 0, 0, 3, 0, 0, 0, 0, 0, 0, 0, 1, 120]) = aP1 := by kernel_rfl
  have h4 : aP1.length / 64 = 1 := by kernel_rfl
  have h5 : (aP1.drop (64 * 0)).take 64 = aP1 := by kernel_rfl
  rw [h2, h1]
  unfold shaL
  rw [h3, h4]
  show outN (blk h0 ((aP1.drop (64 * 0)).take 64)) 8 = _
  rw [h5, aBlk1]

def aP2 : List Int := ([4, 115, 105, 103, 110, 1, 4, 4, 118, 111, 116, 101, 32, 2, 0, 0] ++ [0, 0, 0, 0, 0, 2, 0, 0, 0, 0, 0, 0, 0, 0, 0, 0] ++ [0, 0, 0, 0, 0, 3, 0, 0, 0, 0, 0, 0, 0, 1, 120, 128] ++ [0, 0, 0, 0, 0, 0, 0, 0, 0, 0, 0, 0, 0, 0, 1, 120])
def aW2 : List Int := ([74672487, 1845560324, 1987015781, 537001984, 0, 131072, 0, 0, 0, 196608, 0, 96384, 0, 0, 0, 376] ++ [1217634927, 2278322691, 2686034584, 3613540355, 1698137703, 1748388301, 870716756, 911783678, 265895437, 3989433954, 3997646396, 805263373, 3776496881, 2062738218, 2710913481, 2095091537] ++ [1254754768, 441878814, 2736526011, 1914349380, 1894960161, 1013956598, 3345447325, 4254423406, 569794318, 1143412597, 242478368, 3641997521, 2350990866, 3433224796, 3116649160, 15109485] ++ [3627964081, 661709503, 2371871033, 1798666468, 1312222995, 112054393, 114854250, 3083102264, 3335730475, 1163415184, 474965808, 3136269630, 149054169, 2341127492, 1745137027, 4009605393])
def aV2 : List V8 := [⟨1779033703, 3144134277, 1013904242, 2773480762, 1359893119, 2600822924, 528734635, 1541459225⟩, ⟨8122804, 1779033703, 3144134277, 1013904242, 2637909001, 1359893119, 2600822924, 528734635⟩, ⟨3650086844, 8122804, 1779033703, 3144134277, 2300232918, 2637909001, 1359893119, 2600822924⟩, ⟨1779630242, 3650086844, 8122804, 1779033703, 2840789117, 2300232918, 2637909001, 1359893119⟩, ⟨1682034169, 1779630242, 3650086844, 8122804, 2996484500, 2840789117, 2300232918, 2637909001⟩, ⟨1184219451, 1682034169, 1779630242, 3650086844, 2904635478, 2996484500, 2840789117, 2300232918⟩, ⟨971671113, 1184219451, 1682034169, 1779630242, 502071888, 2904635478, 2996484500, 2840789117⟩, ⟨581398070, 971671113, 1184219451, 1682034169, 1372479294, 502071888, 2904635478, 2996484500⟩, ⟨2626598607, 581398070, 971671113, 1184219451, 2038999121, 1372479294, 502071888, 2904635478⟩, ⟨182863369, 2626598607, 581398070, 971671113, 2907236673, 2038999121, 1372479294, 502071888⟩, ⟨730238696, 182863369, 2626598607, 581398070, 1860226183, 2907236673, 2038999121, 1372479294⟩, ⟨580571090, 730238696, 182863369, 2626598607, 3542112287, 1860226183, 2907236673, 2038999121⟩, ⟨4046074061, 580571090, 730238696, 182863369, 3324586284, 3542112287, 1860226183, 2907236673⟩] ++ [⟨57527444, 4046074061, 580571090, 730238696, 2548257071, 3324586284, 3542112287, 1860226183⟩, ⟨375026624, 57527444, 4046074061, 580571090, 1265433998, 2548257071, 3324586284, 3542112287⟩, ⟨985360510, 375026624, 57527444, 4046074061, 1469225234, 1265433998, 2548257071, 3324586284⟩, ⟨553223781, 985360510, 375026624, 57527444, 3735639856, 1469225234, 1265433998, 2548257071⟩, ⟨1588352080, 553223781, 985360510, 375026624, 2450508714, 3735639856, 1469225234, 1265433998⟩, ⟨2999098213, 1588352080, 553223781, 985360510, 2313890213, 2450508714, 3735639856, 1469225234⟩, ⟨626309266, 2999098213, 1588352080, 553223781, 1865868453, 2313890213, 2450508714, 3735639856⟩, ⟨1670494475, 626309266, 2999098213, 1588352080, 782261004, 1865868453, 2313890213, 2450508714⟩, ⟨1339738841, 1670494475, 626309266, 2999098213, 878380773, 782261004, 1865868453, 2313890213⟩, ⟨3885486587, 1339738841, 1670494475, 626309266, 3295808358, 878380773, 782261004, 1865868453⟩, ⟨2390617224, 3885486587, 1339738841, 1670494475, 583115745, 3295808358, 878380773, 782261004⟩, ⟨152323135, 2390617224, 3885486587, 1339738841, 3965520253, 583115745, 3295808358, 878380773⟩, ⟨891372893, 152323135, 2390617224, 3885486587, 1127785970, 3965520253, 583115745, 3295808358⟩] ++ [⟨2521239790, 891372893, 152323135, 2390617224, 2381648451, 1127785970, 3965520253, 583115745⟩, ⟨851406697, 2521239790, 891372893, 152323135, 1838238488, 2381648451, 1127785970, 3965520253⟩, ⟨3054580670, 851406697, 2521239790, 891372893, 3198306213, 1838238488, 2381648451, 1127785970⟩, ⟨2001441869, 3054580670, 851406697, 2521239790, 2174131966, 3198306213, 1838238488, 2381648451⟩, ⟨3249506367, 2001441869, 3054580670, 851406697, 1341323054, 2174131966, 3198306213, 1838238488⟩, ⟨1943128634, 3249506367, 2001441869, 3054580670, 2681247983, 1341323054, 2174131966, 3198306213⟩, ⟨2837312616, 1943128634, 3249506367, 2001441869, 1632934424, 2681247983, 1341323054, 2174131966⟩, ⟨1832944855, 2837312616, 1943128634, 3249506367, 68860313, 1632934424, 2681247983, 1341323054⟩, ⟨4159388211, 1832944855, 2837312616, 1943128634, 1347479412, 68860313, 1632934424, 2681247983⟩, ⟨918436068, 4159388211, 1832944855, 2837312616, 1018728609, 1347479412, 68860313, 1632934424⟩, ⟨2913927550, 918436068, 4159388211, 1832944855, 2893353437, 1018728609, 1347479412, 68860313⟩, ⟨2720019433, 2913927550, 918436068, 4159388211, 991307961, 2893353437, 1018728609, 1347479412⟩, ⟨3330250519, 2720019433, 2913927550, 918436068, 2696012779, 991307961, 2893353437, 1018728609⟩] ++ [⟨2599077163, 3330250519, 2720019433, 2913927550, 1945919856, 2696012779, 991307961, 2893353437⟩, ⟨1585289099, 2599077163, 3330250519, 2720019433, 617560423, 1945919856, 2696012779, 991307961⟩, ⟨4107255138, 1585289099, 2599077163, 3330250519, 450141897, 617560423, 1945919856, 2696012779⟩, ⟨3450380194, 4107255138, 1585289099, 2599077163, 1281810072, 450141897, 617560423, 1945919856⟩, ⟨3083949746, 3450380194, 4107255138, 1585289099, 2311830177, 1281810072, 450141897, 617560423⟩, ⟨1786162071, 3083949746, 3450380194, 4107255138, 1978630535, 2311830177, 1281810072, 450141897⟩, ⟨2848436356, 1786162071, 3083949746, 3450380194, 1377708347, 1978630535, 2311830177, 1281810072⟩, ⟨3944176820, 2848436356, 1786162071, 3083949746, 1548851461, 1377708347, 1978630535, 2311830177⟩, ⟨869967929, 3944176820, 2848436356, 1786162071, 2118380060, 1548851461, 1377708347, 1978630535⟩, ⟨177834813, 869967929, 3944176820, 2848436356, 1637395980, 2118380060, 1548851461, 1377708347⟩, ⟨2778635794, 177834813, 869967929, 3944176820, 2791834672, 1637395980, 2118380060, 1548851461⟩, ⟨3518666554, 2778635794, 177834813, 869967929, 1974249423, 2791834672, 1637395980, 2118380060⟩, ⟨3541012968, 3518666554, 2778635794, 177834813, 2641024907, 1974249423, 2791834672, 1637395980⟩] ++ [⟨4202079662, 3541012968, 3518666554, 2778635794, 2913909351, 2641024907, 1974249423, 2791834672⟩, ⟨750725962, 4202079662, 3541012968, 3518666554, 3047322235, 2913909351, 2641024907, 1974249423⟩, ⟨298452053, 750725962, 4202079662, 3541012968, 3144774156, 3047322235, 2913909351, 2641024907⟩, ⟨152851386, 298452053, 750725962, 4202079662, 1415734610, 3144774156, 3047322235, 2913909351⟩, ⟨3391318320, 152851386, 298452053, 750725962, 1277319004, 1415734610, 3144774156, 3047322235⟩, ⟨1941945540, 3391318320, 152851386, 298452053, 2697616991, 1277319004, 1415734610, 3144774156⟩, ⟨3983054843, 1941945540, 3391318320, 152851386, 2947792798, 2697616991, 1277319004, 1415734610⟩, ⟨4172806609, 3983054843, 1941945540, 3391318320, 802025100, 2947792798, 2697616991, 1277319004⟩, ⟨3023013771, 4172806609, 3983054843, 1941945540, 357414593, 802025100, 2947792798, 2697616991⟩, ⟨3499128544, 3023013771, 4172806609, 3983054843, 3638046075, 357414593, 802025100, 2947792798⟩, ⟨4137464104, 3499128544, 3023013771, 4172806609, 810825449, 3638046075, 357414593, 802025100⟩, ⟨2061698641, 4137464104, 3499128544, 3023013771, 3101297925, 810825449, 3638046075, 357414593⟩, ⟨3910830255, 2061698641, 4137464104, 3499128544, 3398403699, 3101297925, 810825449, 3638046075⟩]
set_option maxRecDepth 100000 in
theorem aBlk2 : blk h0 aP2 = add8 h0 (aV2.getD 64 z8) := blk_eval h0 aP2 aW2 aV2 (by kernel_rfl) (by kernel_rfl) (by kernel_rfl)
set_option maxRecDepth 100000 in
theorem aSig2 : signK 4 voteS (voteP 2 2 0 3 [120]) = outN (add8 h0 (aV2.getD 64 z8)) 8 := by
  have h1 : packL (textP 4 voteS (voteP 2 2 0 3 [120])) = ([4, 115, 105, 103, 110, 1, 4, 4, 118, 111, 116, 101, 32, 2, 0, 0] ++ [0, 0, 0, 0, 0, 2, 0, 0, 0, 0, 0, 0, 0, 0, 0, 0] ++ [0, 0, 0, 0, 0, 3, 0, 0, 0, 0, 0, 0, 0, 1, 120]) := by kernel_rfl
  have h2 : signK 4 voteS (voteP 2 2 0 3 [120]) = shaL (packL (textP 4 voteS (voteP 2 2 0 3 [120]))) := by unfold signK; rfl
  have h3 : padB ([4, 115, 105, 103, 110, 1, 4, 4, 118, 111, 116, 101, 32, 2, 0, 0] ++ [0, 0, 0, 0, 0, 2, 0, 0, 0, 0, 0, 0, 0, 0, 0, 0] ++ [0, 0, 0, 0, 0, 3, 0, 0, 0, 0, 0, 0, 0, 1, 120]) = aP2 := by kernel_rfl
  have h4 : aP2.length / 64 = 1 := by kernel_rfl
  have h5 : (aP2.drop (64 * 0)).take 64 = aP2 := by kernel_rfl
  rw [h2, h1]
  unfold shaL
  rw [h3, h4]
  show outN (blk h0 ((aP2.drop (64 * 0)).take 64)) 8 = _
  rw [h5, aBlk2]

set_option maxRecDepth 100000 in
theorem alive_ne : decide (signK 4 voteS (voteP 2 1 0 3 [120]) = signK 4 voteS (voteP 2 2 0 3 [120])) = false := by
  rw [aSig1, aSig2]
  kernel_rfl
theorem signK_len (k : Int) (s : ByteArray) (ps : List (List Int)) (hr : rightK k = true) : (signK k s ps).length = 32 := by
  unfold signK; rw [hr]; exact shaL_len _
end Go.Abs

/-
catenarylaw06.voteAlive answers true.
-/
namespace Go.Abs
open Go Go.Proofs

def g26 : GSpec := fun args K => match args with
  | [] => K (.ret (.bool true))
  | _ => False
theorem g26_det (args : List AV) : Det (g26 args) := by
  unfold g26
  repeat' (first | exact Det.no | exact Det.at _ | refine Det.and ?_ | refine Det.ex fun _ => ?_ | refine Det.cond ?_ ?_ | split)
theorem g26_flat (args : List AV) (o : AOut) (h : g26 args (· = o)) : flatO o = true := by
  unfold g26 at h
  split at h
  · cases h; rfl
  · exact h.elim
theorem le8_ok' (x : Int) : ∀ n, okB (le8 x n)
  | 0 => fun _ h => by cases h
  | n + 1 => fun b hb => by
    rcases List.mem_append.1 hb with h | h
    · exact le8_ok' x n b h
    · rw [List.mem_singleton] at h; subst h; exact wrap8_ok _
theorem numsL_ok (xs : List Int) : okB (numsL xs) := fun b hb => by
  simp only [numsL, List.mem_flatten, List.mem_map] at hb
  obtain ⟨l, ⟨x, _, rfl⟩, hb⟩ := hb
  exact le8_ok' x 8 b hb
theorem aliveP (view : Int) : okP (voteP 2 view 0 3 [120]) := by
  have h1 := encI_len (numsL [2, view, 0, 3]).length
  have h2 := encI_len ((0 + 1 : Nat) : Int)
  have h3 := numsL_len [2, view, 0, 3]
  refine ⟨by simp [voteP], fun p hp => ?_, ?_⟩
  · simp only [voteP, List.mem_cons, List.not_mem_nil, or_false] at hp
    rcases hp with rfl | rfl
    · exact numsL_ok _
    · intro b hb; simp only [List.mem_cons, List.not_mem_nil, or_false] at hb; omega
  · simp only [packL, voteP, encB, List.map_cons, List.map_nil, List.flatten_cons, List.flatten_nil, List.length_append, List.length_nil, List.length_cons] at *
    omega
set_option maxRecDepth 100000 in
theorem f26_ok (T : Tab) (Q : AOut → Prop) (hQ : Q (.ret (.bool true))) (N : Nat) : abody Tryd.prog (ext (ext T 65 (pureT g65)) 66 (flatT g66)) 0 N Tryd.f26 [] [] (fun out Hs => Q (frzO Hs out)) := by
  conv => whnf
  refine ⟨[120], by kernel_rfl, aliveP 1, ?_⟩
  obtain ⟨sg, hsg⟩ : ∃ sg, sg = signK (replK 4) voteS (voteP 2 1 0 3 [120]) := ⟨_, rfl⟩
  rw [← hsg]
  have hl : (bsA sg).length = 32 := by rw [bsA_length, hsg]; exact signK_len _ _ _ (by decide)
  have hb : okB sg := by rw [hsg]; exact signK_ok _ _ _
  have hv1 : verK (replK 4) sg voteS (voteP 2 1 0 3 [120]) = true := by
    unfold verK
    rw [← hsg, decide_eq_true rfl]
    decide
  have hv2 : verK (replK 4) sg voteS (voteP 2 2 0 3 [120]) = false := by
    unfold verK
    have : decide (sg = signK (replK 4) voteS (voteP 2 2 0 3 [120])) = false := by rw [hsg]; exact alive_ne
    rw [this, Bool.and_false]
  clear hsg
  conv => whnf
  split
  rotate_left
  · rename_i h; have h := of_decide_eq_false h
    exact absurd (by rw [hl]; rfl) h
  rename_i h
  conv => whnf
  refine ⟨[120], sg, by kernel_rfl, rfl, hb, aliveP 1, ?_⟩
  rw [hv1]
  conv => whnf
  refine ⟨[120], sg, by kernel_rfl, rfl, hb, aliveP 2, ?_⟩
  rw [hv2]
  conv => whnf
  refine Eq.mp ?_ hQ
  kernel_rfl
set_option maxRecDepth 100000 in
theorem s26 {T : Tab} (hT : TGood Tryd.prog T) : SGood Tryd.prog 26 (flatT g26) := flatT_good g26_det g26_flat fun args Q h => by
  unfold g26 at h
  split at h
  · have t0 := ext_good hT (s65 hT)
    exact body_pure (ext_good t0 (s66 t0)) mixedT Tryd.func26 (entersOf Tryd.func26 (by kernel_rfl) rfl) 0 (f26_ok T Q h 0)
  · exact h.elim
end Go.Abs

