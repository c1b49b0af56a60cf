/-
vote.nums is what it comes to.
-/
import Derived.Test.YtmainkiflkagjaaGreatDoorAbw16
import Derived.Test.YtmainkiflkagjaaGreatDoorAbw9
import Derived.Test.YtmainkiflkagjaaGreatDoorAbw12
namespace Go.Abs
open Go Go.Proofs

def intsA (xs : List Int) : List (List AV) := xs.map fun x => [.int .i64 x]
def numsL (xs : List Int) : List Int := (xs.map fun x => le8 x 8).flatten
theorem numsL_len (xs : List Int) : (numsL xs).length = 8 * xs.length := by
  induction xs with
  | nil => rfl
  | cons x r ih =>
    simp only [numsL, List.map_cons, List.flatten_cons, List.length_append, le8_len, List.length_cons] at *
    omega
theorem numsL_take {xs : List Int} {i : Nat} {x : Int} (h : xs[i]? = some x) : numsL (xs.take (i + 1)) = numsL (xs.take i) ++ le8 x 8 := by
  unfold numsL
  rw [List.take_add_one, h]
  simp
def accV : List (List AV) → AV
  | [] => .zslice
  | _ :: _ => .row 0
def accH : List (List AV) → Heap
  | [] => []
  | y :: ys => [.row true 5 1 (y :: ys)]
@[simp] theorem intsA_length (xs : List Int) : (intsA xs).length = xs.length := by simp [intsA]

def g137 : GSpec := fun args K => match args with
  | [.slice es] => ∃ xs : List Int, es = intsA xs ∧ xs.length ≤ 1000 ∧ K (.ret (.slice (bsA (numsL xs))))
  | _ => False
theorem g137_det (args : List AV) : Det (g137 args) := by
  unfold g137
  repeat' (first | exact Det.no | exact Det.at _ | refine Det.and ?_ | refine Det.ex fun _ => ?_ | refine Det.cond ?_ ?_ | split)

set_option maxRecDepth 100000 in
set_option maxHeartbeats 8000000 in
theorem f137_ok (xs : List Int) (hx : xs.length ≤ 1000) (T : Tab) (Q : AOut → Prop) (hQ : Q (.ret (.slice (bsA (numsL xs))))) (N : Nat) (hN : xs.length < N) (hN8 : 8 < N) :
    abody Tryz.prog T 0 N Tryz.f125 [.slice (intsA xs)] [] (fun out Hs => Q (frzO Hs out)) := by
  have hxl : (intsA xs).length = xs.length := intsA_length xs
  conv => whnf
  refine aloop_at ?_ ?_ (aloop_inv (σ := Nat × List (List AV)) (fun s => ((sp 0 27 [(3, accV s.2), (7, .slice (intsA xs)), (8, .int .i64 (intsA xs).length), (9, .int .i64 (s.1 : Nat))]), accH s.2))
    (fun s => s.1 ≤ xs.length ∧ s.2 = bsA (numsL (xs.take s.1))) (fun s => xs.length - s.1) ?_ N (0, []) ⟨Nat.zero_le _, by simp [numsL, bsA]⟩ (by dsimp only; omega))
  · kernel_rfl
  · kernel_rfl
  rintro ⟨i, acc⟩ ⟨hi, hacc⟩ R hR
  dsimp only at hi hacc
  have hlen0 : acc.length = 8 * min i xs.length := by rw [hacc, bsA_length, numsL_len, List.length_take]
  have hi1 : IntKind.i64.wrap ((i : Int) + 1) = ((i + 1 : Nat) : Int) := by rw [IntWalk.i64_in _ (by omega)]; omega
  have hout0 : i = xs.length → acc = bsA (numsL xs) := fun h => by rw [hacc, h, List.take_length]
  have hin : ∀ x, acc = bsA (numsL (xs.take i) ++ le8 x 0) := fun x => by simp [le8, hacc]
  clear hacc
  rcases acc with _ | ⟨y, ys⟩
  all_goals
    conv => whnf
    split
    rotate_left
    · rename_i h2; have h2 := of_decide_eq_false h2
      rw [hxl] at h2
      have hil : i = xs.length := by omega
      rw [← hout0 hil] at hQ
      conv => whnf
      refine Eq.mp ?_ hQ
      kernel_rfl
    rename_i h2; have h2 := of_decide_eq_true h2
    rw [hxl] at h2
    obtain ⟨x, hxi⟩ : ∃ x, xs[i]? = some x := ⟨_, List.getElem?_eq_getElem (by omega)⟩
    have hget : (intsA xs)[((i : Nat) : Int).toNat]? = some [.int .i64 x] := by
      rw [Int.toNat_natCast]; simp [intsA, hxi]
    have hnx := numsL_take hxi
    conv => whnf
    refine ⟨by omega, by rw [hxl]; omega, [.int .i64 x], hget, by kernel_rfl, ?_⟩
    conv => whnf
    refine aloop_at ?_ ?_ (aloop_inv (σ := Nat × List (List AV)) (fun s => ((sp 0 27 [(3, accV s.2), (5, .int .i64 x), (7, .slice (intsA xs)), (8, .int .i64 (intsA xs).length), (9, .int .i64 (i : Nat)), (13, .int .i64 (s.1 : Nat))]), accH s.2))
      (fun s => s.1 ≤ 8 ∧ s.2 = bsA (numsL (xs.take i) ++ le8 x s.1)) (fun s => 8 - s.1) ?_ N (0, _) ⟨Nat.zero_le _, hin x⟩ (by dsimp only; omega))
    · kernel_rfl
    · kernel_rfl
    rintro ⟨j, ac⟩ ⟨hj, hac⟩ R2 hR2
    dsimp only at hj hac
    have hlen : ac.length = 8 * min i xs.length + j := by rw [hac, bsA_length, List.length_append, numsL_len, List.length_take, le8_len]
    have hnext : ac ++ bsA [byteOf x j] = bsA (numsL (xs.take i) ++ le8 x (j + 1)) := by rw [hac, ← bsA_append, List.append_assoc]; rfl
    have hel : ∀ el ∈ ac, el.length = 1 := by rw [hac]; exact fun el hel => bsA_el hel
    have hout : j = 8 → ac = bsA (numsL (xs.take (i + 1))) := fun h => by rw [hac, h, hnx]
    clear hac
    have hj1 : IntKind.i64.wrap ((j : Int) + 1) = ((j + 1 : Nat) : Int) := by rw [IntWalk.i64_in _ (by omega)]; omega
    rcases ac with _ | ⟨z, zs⟩
    all_goals
      conv => whnf
      split
      rotate_left
      · rename_i h3
        have h3 : ¬ (j : Int) < 8 := of_decide_eq_false h3
        have h8 : j = 8 := by omega
        conv => whnf
        have hR3 := hR (i + 1, _) ⟨by dsimp only; omega, hout h8⟩ (by dsimp only; omega)
        dsimp only at hR3
        rw [← hi1] at hR3
        refine R_at ?_ ?_ hR3
        · kernel_rfl
        · kernel_rfl
      rename_i h3
      have h3 : (j : Int) < 8 := of_decide_eq_true h3
      have hsh : 0 ≤ IntKind.i64.wrap (8 * (j : Int)) := by rw [IntWalk.i64_in _ (by omega)]; omega
      conv => whnf
      split
      rotate_left
      · rename_i h4
        exact absurd hsh (of_decide_eq_false h4)
      conv => whnf
      refine ⟨fits_at (ys' := bsA [byteOf x j]) (by kernel_rfl) (fits_bs (by rw [List.length_singleton]; first | omega | (dsimp only; omega))), ?_⟩
      conv => whnf
      have hR3 := hR2 (j + 1, _ ++ bsA [byteOf x j]) ⟨by dsimp only; omega, hnext⟩ (by dsimp only; omega)
      dsimp only at hR3
      rw [← hj1] at hR3
      refine R_at ?_ ?_ hR3
      · kernel_rfl
      · kernel_rfl

set_option maxRecDepth 100000 in
theorem s137 {T : Tab} (hT : TGood Tryz.prog T) : SGood Tryz.prog 125 (pureT g137) := pureT_good g137_det fun args Q h => by
  unfold g137 at h
  split at h
  · obtain ⟨xs, rfl, hx, hQ⟩ := h
    exact body_pure hT mixedT Tryz.func125 (entersOf Tryz.func125 (by kernel_rfl) rfl) (xs.length + 9) (f137_ok xs hx T Q hQ _ (by omega) (by omega))
  · exact h.elim
end Go.Abs

/-
key.Verify; vote.voted, its methods, Make, Right are what they come to.
-/
namespace Go.Abs
open Go Go.Proofs

theorem signK_ok (k : Int) (s : ByteArray) (ps : List (List Int)) : okB (signK k s ps) := by
  unfold signK
  cases rightK k with
  | false => exact fun _ h => by cases h
  | true => exact shaL_ok _
def voteS : ByteArray := ⟨#[118, 111, 116, 101]⟩
def verK (k : Int) (sg : List Int) (s : ByteArray) (ps : List (List Int)) : Bool := rightK k && decide (sg = signK k s ps)

def g138 : GSpec := fun args K => match args with
  | [.int .i64 k, .slice es, .str s, .slice fs] => ∃ (sg : List Int) (ps : List (List Int)), es = bsA sg ∧ fs = partsA ps ∧ okB sg ∧ okP ps ∧ s.size ≤ 1000 ∧ K (.ret (.bool (verK k sg s ps)))
  | _ => False
theorem g138_det (args : List AV) : Det (g138 args) := by
  unfold g138
  repeat' (first | exact Det.no | exact Det.at _ | refine Det.and ?_ | refine Det.ex fun _ => ?_ | refine Det.cond ?_ ?_ | split)
theorem g138_flat (args : List AV) (o : AOut) (h : g138 args (· = o)) : flatO o = true := by
  unfold g138 at h
  split at h
  · obtain ⟨_, _, _, _, _, _, _, rfl⟩ := h; rfl
  · exact h.elim
def g119 : GSpec := fun args K => match args with
  | [.agg [.int .i64 k, .str s, .slice fs], .slice es] => ∃ (sg : List Int) (ps : List (List Int)), es = bsA sg ∧ fs = partsA ps ∧ okB sg ∧ okP ps ∧ s.size ≤ 1000 ∧ K (.ret (.bool (verK k sg s ps)))
  | _ => False
theorem g119_det (args : List AV) : Det (g119 args) := by
  unfold g119
  repeat' (first | exact Det.no | exact Det.at _ | refine Det.and ?_ | refine Det.ex fun _ => ?_ | refine Det.cond ?_ ?_ | split)
theorem g119_flat (args : List AV) (o : AOut) (h : g119 args (· = o)) : flatO o = true := by
  unfold g119 at h
  split at h
  · obtain ⟨_, _, _, _, _, _, _, rfl⟩ := h; rfl
  · exact h.elim
def methG (f : Int → ByteArray → List (List Int) → List Int) : GSpec := fun args K => match args with
  | [.agg [.int .i64 k, .str s, .slice es]] => ∃ ps, es = partsA ps ∧ okP ps ∧ s.size ≤ 1000 ∧ K (.ret (.slice (bsA (f k s ps))))
  | _ => False
theorem methG_det (f : Int → ByteArray → List (List Int) → List Int) (args : List AV) : Det (methG f args) := by
  unfold methG
  repeat' (first | exact Det.no | exact Det.at _ | refine Det.and ?_ | refine Det.ex fun _ => ?_ | refine Det.cond ?_ ?_ | split)
def voteP (kind view turn slot : Int) (body : List Int) : List (List Int) := [numsL [kind, view, turn, slot], body]

set_option maxRecDepth 100000 in
theorem f138_ok (k : Int) (sg : List Int) (s : ByteArray) (ps : List (List Int)) (hsg : okB sg) (hp : okP ps) (hs : s.size ≤ 1000) (T : Tab) (Q : AOut → Prop) (hQ : Q (.ret (.bool (verK k sg s ps)))) (N : Nat) :
    abody Tryz.prog (ext (ext (ext T 141 (flatT g139)) 95 (pureT (txtG signK))) 61 (flatT g18)) 0 N Tryz.f126 [.int .i64 k, .slice (bsA sg), .str s, .slice (partsA ps)] [] (fun out Hs => Q (frzO Hs out)) := by
  unfold verK at hQ
  conv => whnf
  cases hr : rightK k with
  | false =>
    rw [hr] at hQ
    conv => whnf
    refine Eq.mp ?_ hQ
    kernel_rfl
  | true =>
    rw [hr] at hQ
    conv => whnf
    refine ⟨ps, rfl, hp, hs, ?_⟩
    conv => whnf
    refine ⟨sg, signK k s ps, rfl, rfl, hsg, signK_ok k s ps, ?_⟩
    conv => whnf
    refine Eq.mp ?_ hQ
    kernel_rfl
set_option maxRecDepth 100000 in
theorem f119_ok (k : Int) (sg : List Int) (s : ByteArray) (ps : List (List Int)) (hsg : okB sg) (hp : okP ps) (hs : s.size ≤ 1000) (T : Tab) (Q : AOut → Prop) (hQ : Q (.ret (.bool (verK k sg s ps)))) (N : Nat) :
    abody Tryz.prog (ext T 126 (flatT g138)) 0 N Tryz.f73 [.agg [.int .i64 k, .str s, .slice (partsA ps)], .slice (bsA sg)] [] (fun out Hs => Q (frzO Hs out)) := by
  conv => whnf
  refine ⟨sg, ps, rfl, rfl, hsg, hp, hs, ?_⟩
  conv => whnf
  refine Eq.mp ?_ hQ
  kernel_rfl
set_option maxRecDepth 100000 in
theorem f68_ok (k : Int) (s : ByteArray) (ps : List (List Int)) (hp : okP ps) (hs : s.size ≤ 1000) (T : Tab) (Q : AOut → Prop) (hQ : Q (.ret (.slice (bsA (signK k s ps))))) (N : Nat) :
    abody Tryz.prog (ext T 95 (pureT (txtG signK))) 0 N Tryz.f55 [.agg [.int .i64 k, .str s, .slice (partsA ps)]] [] (fun out Hs => Q (frzO Hs out)) := by
  conv => whnf
  refine ⟨ps, rfl, hp, hs, ?_⟩
  conv => whnf
  refine Eq.mp ?_ hQ
  kernel_rfl
set_option maxRecDepth 100000 in
theorem s68 {T : Tab} (hT : TGood Tryz.prog T) : SGood Tryz.prog 55 (pureT (methG signK)) := pureT_good (methG_det signK) fun args Q h => by
  unfold methG at h
  split at h
  · obtain ⟨ps, rfl, hp, hs, hQ⟩ := h
    exact body_pure (ext_good hT (s121 hT)) mixedT Tryz.func55 (entersOf Tryz.func55 (by kernel_rfl) rfl) 0 (f68_ok _ _ ps hp hs T Q hQ 0)
  · exact h.elim
set_option maxRecDepth 100000 in
theorem f70_ok (k : Int) (s : ByteArray) (ps : List (List Int)) (hp : okP ps) (hs : s.size ≤ 1000) (T : Tab) (Q : AOut → Prop) (hQ : Q (.ret (.slice (bsA (textK k s ps))))) (N : Nat) :
    abody Tryz.prog (ext T 107 (pureT (txtG textK))) 0 N Tryz.f60 [.agg [.int .i64 k, .str s, .slice (partsA ps)]] [] (fun out Hs => Q (frzO Hs out)) := by
  conv => whnf
  refine ⟨ps, rfl, hp, hs, ?_⟩
  conv => whnf
  refine Eq.mp ?_ hQ
  kernel_rfl
set_option maxRecDepth 100000 in
theorem s70 {T : Tab} (hT : TGood Tryz.prog T) : SGood Tryz.prog 60 (pureT (methG textK)) := pureT_good (methG_det textK) fun args Q h => by
  unfold methG at h
  split at h
  · obtain ⟨ps, rfl, hp, hs, hQ⟩ := h
    exact body_pure (ext_good hT (s122 hT)) mixedT Tryz.func60 (entersOf Tryz.func60 (by kernel_rfl) rfl) 0 (f70_ok _ _ ps hp hs T Q hQ 0)
  · exact h.elim
set_option maxRecDepth 100000 in
theorem s138 {T : Tab} (hT : TGood Tryz.prog T) : SGood Tryz.prog 126 (flatT g138) := flatT_good g138_det g138_flat fun args Q h => by
  unfold g138 at h
  split at h
  · obtain ⟨sg, ps, rfl, rfl, hsg, hp, hs, hQ⟩ := h
    have t0 := ext_good hT (s139 hT)
    have t1 := ext_good t0 (s121 t0)
    have t2 := ext_good t1 (s71 t1)
    exact body_pure t2 mixedT Tryz.func126 (entersOf Tryz.func126 (by kernel_rfl) rfl) 0 (f138_ok _ sg _ ps hsg hp hs T Q hQ 0)
  · exact h.elim
set_option maxRecDepth 100000 in
theorem s119 {T : Tab} (hT : TGood Tryz.prog T) : SGood Tryz.prog 73 (flatT g119) := flatT_good g119_det g119_flat fun args Q h => by
  unfold g119 at h
  split at h
  · obtain ⟨sg, ps, rfl, rfl, hsg, hp, hs, hQ⟩ := h
    have t0 := ext_good hT (s138 hT)
    exact body_pure t0 mixedT Tryz.func73 (entersOf Tryz.func73 (by kernel_rfl) rfl) 0 (f119_ok _ sg _ ps hsg hp hs T Q hQ 0)
  · exact h.elim

def g118 : GSpec := fun args K => match args with
  | [.int .i64 kind, .agg [.int .i64 view, .int .i64 turn], .int .i64 slot, .slice es, .int .i64 signer] => ∃ body : List Int, es = bsA body ∧ K (.ret (.agg [.int .i64 (replK signer), .str voteS, .slice (partsA (voteP kind view turn slot body))]))
  | _ => False
theorem g118_det (args : List AV) : Det (g118 args) := by
  unfold g118
  repeat' (first | exact Det.no | exact Det.at _ | refine Det.and ?_ | refine Det.ex fun _ => ?_ | refine Det.cond ?_ ?_ | split)
set_option maxRecDepth 100000 in
theorem f118_ok (kind view turn slot signer : Int) (body : List Int) (T : Tab) (Q : AOut → Prop) (hQ : Q (.ret (.agg [.int .i64 (replK signer), .str voteS, .slice (partsA (voteP kind view turn slot body))]))) (N : Nat) :
    abody Tryz.prog (ext (ext T 94 (flatT g120)) 125 (pureT g137)) 0 N Tryz.f127 [.int .i64 kind, .agg [.int .i64 view, .int .i64 turn], .int .i64 slot, .slice (bsA body), .int .i64 signer] [] (fun out Hs => Q (frzO Hs out)) := by
  conv => whnf
  refine ⟨[8, 9, 11, 13], ?_⟩
  conv => whnf
  refine ⟨rfl, ?_⟩
  conv => whnf
  refine ⟨by (conv => whnf); exact ⟨rfl, rfl⟩, ?_⟩
  conv => whnf
  refine ⟨[kind, view, turn, slot], by kernel_rfl, by show 4 ≤ 1000; decide, ?_⟩
  conv => whnf
  repeat (refine ⟨rfl, ?_⟩; conv => whnf)
  repeat (refine ⟨by (conv => whnf); exact ⟨rfl, rfl⟩, ?_⟩; conv => whnf)
  refine Eq.mp ?_ hQ
  kernel_rfl
set_option maxRecDepth 100000 in
theorem s118 {T : Tab} (hT : TGood Tryz.prog T) : SGood Tryz.prog 127 (pureT g118) := pureT_good g118_det fun args Q h => by
  unfold g118 at h
  split at h
  · obtain ⟨body, rfl, hQ⟩ := h
    have t0 := ext_good hT (s120 hT)
    exact body_pure (ext_good t0 (s137 t0)) mixedT Tryz.func127 (entersOf Tryz.func127 (by kernel_rfl) rfl) 0 (f118_ok _ _ _ _ _ body T Q hQ 0)
  · exact h.elim

def g65 : GSpec := fun args K => match args with
  | [.int .i64 kind, .agg [.int .i64 view, .int .i64 turn], .int .i64 slot, .slice es, .int .i64 signer] => ∃ body : List Int, es = bsA body ∧ okP (voteP kind view turn slot body) ∧ K (.ret (.agg [.int .i64 signer, .slice (bsA (signK (replK signer) voteS (voteP kind view turn slot body)))]))
  | _ => False
theorem g65_det (args : List AV) : Det (g65 args) := by
  unfold g65
  repeat' (first | exact Det.no | exact Det.at _ | refine Det.and ?_ | refine Det.ex fun _ => ?_ | refine Det.cond ?_ ?_ | split)
def g66 : GSpec := fun args K => match args with
  | [.int .i64 kind, .agg [.int .i64 view, .int .i64 turn], .int .i64 slot, .slice es, .agg [.int .i64 signer, .slice fs]] => ∃ body sg : List Int, es = bsA body ∧ fs = bsA sg ∧ okB sg ∧ okP (voteP kind view turn slot body) ∧ K (.ret (.bool (verK (replK signer) sg voteS (voteP kind view turn slot body))))
  | _ => False
theorem g66_det (args : List AV) : Det (g66 args) := by
  unfold g66
  repeat' (first | exact Det.no | exact Det.at _ | refine Det.and ?_ | refine Det.ex fun _ => ?_ | refine Det.cond ?_ ?_ | split)
theorem g66_flat (args : List AV) (o : AOut) (h : g66 args (· = o)) : flatO o = true := by
  unfold g66 at h
  split at h
  · obtain ⟨_, _, _, _, _, _, rfl⟩ := h; rfl
  · exact h.elim
set_option maxRecDepth 100000 in
theorem f65_ok (kind view turn slot signer : Int) (body : List Int) (hp : okP (voteP kind view turn slot body)) (T : Tab) (Q : AOut → Prop) (hQ : Q (.ret (.agg [.int .i64 signer, .slice (bsA (signK (replK signer) voteS (voteP kind view turn slot body)))]))) (N : Nat) :
    abody Tryz.prog (ext (ext T 127 (pureT g118)) 55 (pureT (methG signK))) 0 N Tryz.f112 [.int .i64 kind, .agg [.int .i64 view, .int .i64 turn], .int .i64 slot, .slice (bsA body), .int .i64 signer] [] (fun out Hs => Q (frzO Hs out)) := by
  conv => whnf
  refine ⟨body, rfl, ?_⟩
  conv => whnf
  refine ⟨voteP kind view turn slot body, rfl, hp, by decide, ?_⟩
  conv => whnf
  refine Eq.mp ?_ hQ
  kernel_rfl
set_option maxRecDepth 100000 in
theorem f66_ok (kind view turn slot signer : Int) (body sg : List Int) (hp : okP (voteP kind view turn slot body)) (hsg : okB sg) (T : Tab) (Q : AOut → Prop) (hQ : Q (.ret (.bool (verK (replK signer) sg voteS (voteP kind view turn slot body))))) (N : Nat) :
    abody Tryz.prog (ext (ext T 127 (pureT g118)) 73 (flatT g119)) 0 N Tryz.f74 [.int .i64 kind, .agg [.int .i64 view, .int .i64 turn], .int .i64 slot, .slice (bsA body), .agg [.int .i64 signer, .slice (bsA sg)]] [] (fun out Hs => Q (frzO Hs out)) := by
  conv => whnf
  refine ⟨[], ?_⟩
  conv => whnf
  refine ⟨body, rfl, ?_⟩
  conv => whnf
  repeat (refine ⟨rfl, ?_⟩; conv => whnf)
  refine ⟨sg, voteP kind view turn slot body, rfl, rfl, hsg, hp, by decide, ?_⟩
  conv => whnf
  repeat (refine ⟨rfl, ?_⟩; conv => whnf)
  refine Eq.mp ?_ hQ
  kernel_rfl
set_option maxRecDepth 100000 in
theorem s65 {T : Tab} (hT : TGood Tryz.prog T) : SGood Tryz.prog 112 (pureT g65) := pureT_good g65_det fun args Q h => by
  unfold g65 at h
  split at h
  · obtain ⟨body, rfl, hp, hQ⟩ := h
    have t0 := ext_good hT (s118 hT)
    exact body_pure (ext_good t0 (s68 t0)) mixedT Tryz.func112 (entersOf Tryz.func112 (by kernel_rfl) rfl) 0 (f65_ok _ _ _ _ _ body hp T Q hQ 0)
  · exact h.elim
set_option maxRecDepth 100000 in
theorem s66 {T : Tab} (hT : TGood Tryz.prog T) : SGood Tryz.prog 74 (flatT g66) := flatT_good g66_det g66_flat fun args Q h => by
  unfold g66 at h
  split at h
  · obtain ⟨body, sg, rfl, rfl, hsg, hp, hQ⟩ := h
    have t0 := ext_good hT (s118 hT)
    exact body_pure (ext_good t0 (s119 t0)) mixedT Tryz.func74 (entersOf Tryz.func74 (by kernel_rfl) rfl) 0 (f66_ok _ _ _ _ _ body sg hp hsg T Q hQ 0)
  · exact h.elim

end Go.Abs

/-
The bytes of some numbers are bytes.
-/
namespace Go.Abs
open Go Go.Proofs

theorem le8_ok' (x : Int) : ∀ n, okB (le8 x n)
  | 0 => fun _ h => by cases h
  | n + 1 => fun b hb => by
    rcases List.mem_append.1 hb with h | h
    · exact le8_ok' x n b h
    · rw [List.mem_singleton] at h; subst h; exact wrap8_ok _
theorem numsL_ok (xs : List Int) : okB (numsL xs) := fun b hb => by
  simp only [numsL, List.mem_flatten, List.mem_map] at hb
  obtain ⟨l, ⟨x, _, rfl⟩, hb⟩ := hb
  exact le8_ok' x 8 b hb
end Go.Abs

/-
vote.sigOf, catenaryref06.one, domain, slices.Clone[Report] of one report are what they come to.
-/
namespace Go.Abs
open Go Go.Proofs

def oneM (m : MsV) : Bool := (m.kind == 8) && ((m.reports.length : Int) == 1)
def reportS : ByteArray := ⟨#[114, 101, 112, 111, 114, 116]⟩
def messageS : ByteArray := ⟨#[109, 101, 115, 115, 97, 103, 101]⟩
def domS (m : MsV) : ByteArray := cond (oneM m) reportS messageS
def sigM (m : MsV) : List Int := match oneM m, m.reports with
  | true, r :: _ => r.sig
  | _, _ => m.sig
def g74 : GSpec := fun args K => match args with
  | [.agg cs] => ∃ m : MsV, cs = msC m ∧ K (.ret (.bool (oneM m)))
  | _ => False
def g77 : GSpec := fun args K => match args with
  | [.agg cs] => ∃ m : MsV, cs = msC m ∧ K (.ret (.str (domS m)))
  | _ => False
def g72 : GSpec := fun args K => match args with
  | [.agg cs] => ∃ m : MsV, cs = msC m ∧ K (.ret (.slice (bsA (sigM m))))
  | _ => False
def g69 : FSpec := fun args K => match args with
  | [.slice es] => ∃ r : RpV, es = [rpC r] ∧ K (.ret (.row 0)) [.row true 28 8 [rpC r]]
  | _ => False
theorem g69_det (args : List AV) : DetF (g69 args) := by
  unfold g69
  repeat' (first | exact DetF.no | exact DetF.at _ _ | refine DetF.and ?_ | refine DetF.ex fun _ => ?_ | refine DetF.cond ?_ ?_ | split)

theorem g74_det (args : List AV) : Det (g74 args) := by
  unfold g74
  repeat' (first | exact Det.no | exact Det.at _ | refine Det.and ?_ | refine Det.ex fun _ => ?_ | refine Det.cond ?_ ?_ | split)
theorem g74_flat (args : List AV) (o : AOut) (h : g74 args (· = o)) : flatO o = true := by
  unfold g74 at h
  split at h
  · obtain ⟨_, _, rfl⟩ := h; rfl
  · exact h.elim
theorem g77_det (args : List AV) : Det (g77 args) := by
  unfold g77
  repeat' (first | exact Det.no | exact Det.at _ | refine Det.and ?_ | refine Det.ex fun _ => ?_ | refine Det.cond ?_ ?_ | split)
theorem g77_flat (args : List AV) (o : AOut) (h : g77 args (· = o)) : flatO o = true := by
  unfold g77 at h
  split at h
  · obtain ⟨_, _, rfl⟩ := h; rfl
  · exact h.elim
theorem g72_det (args : List AV) : Det (g72 args) := by
  unfold g72
  repeat' (first | exact Det.no | exact Det.at _ | refine Det.and ?_ | refine Det.ex fun _ => ?_ | refine Det.cond ?_ ?_ | split)
@[simp] theorem rpCL_length (l : List RpV) : (rpCL l).length = l.length := by simp [rpCL]
set_option maxRecDepth 100000 in
theorem f74_ok (m : MsV) (T : Tab) (Q : AOut → Prop) (hQ : Q (.ret (.bool (oneM m)))) (N : Nat) : abody Tryz.prog T 0 N Tryz.f132 [.agg (msC m)] [] (fun out Hs => Q (frzO Hs out)) := by
  have hl : ((rpCL m.reports).length : Int) = m.reports.length := by rw [rpCL_length]
  unfold oneM at hQ
  rw [← hl] at hQ
  conv => whnf
  split
  · rename_i h; rw [h] at hQ
    conv => whnf
    refine Eq.mp ?_ hQ
    kernel_rfl
  · rename_i h; rw [h] at hQ
    conv => whnf
    refine Eq.mp ?_ hQ
    kernel_rfl
set_option maxRecDepth 100000 in
theorem f77_ok (m : MsV) (T : Tab) (Q : AOut → Prop) (hQ : Q (.ret (.str (domS m)))) (N : Nat) : abody Tryz.prog (ext T 132 (flatT g74)) 0 N Tryz.f131 [.agg (msC m)] [] (fun out Hs => Q (frzO Hs out)) := by
  unfold domS at hQ
  conv => whnf
  refine ⟨m, rfl, ?_⟩
  cases h1 : oneM m with
  | true =>
    rw [h1] at hQ
    conv => whnf
    refine Eq.mp ?_ hQ
    kernel_rfl
  | false =>
    rw [h1] at hQ
    conv => whnf
    refine Eq.mp ?_ hQ
    kernel_rfl
set_option maxRecDepth 100000 in
theorem f69_ok (r : RpV) (T : Tab) (Q : AOut → Heap → Prop) (hQ : Q (.ret (.row 0)) [.row true 28 8 [rpC r]]) (N : Nat) : abody Tryz.prog T 0 N Tryz.f56 [.slice [rpC r]] [] Q := by
  conv => whnf
  refine ⟨fits_one rfl (by decide) (by decide), ?_⟩
  conv => whnf
  refine Eq.mp ?_ hQ
  kernel_rfl
set_option maxRecDepth 100000 in
theorem f72_ok (m : MsV) (T : Tab) (Q : AOut → Prop) (hQ : Q (.ret (.slice (bsA (sigM m))))) (N : Nat) : abody Tryz.prog T 0 N Tryz.f62 [.agg (msC m)] [] (fun out Hs => Q (frzO Hs out)) := by
  have hl : ((rpCL m.reports).length : Int) = m.reports.length := by rw [rpCL_length]
  conv => whnf
  split
  · rename_i h
    have hk : m.kind = 8 := of_decide_eq_true h
    conv => whnf
    split
    · rename_i h1
      have h1 := of_decide_eq_true h1
      rw [hl] at h1
      obtain ⟨r, hr⟩ : ∃ r, m.reports = [r] := List.length_eq_one_iff.1 (by omega)
      have hs : sigM m = r.sig := by unfold sigM oneM; rw [hr, hk]; rfl
      rw [hs] at hQ
      rw [hr]
      conv => whnf
      refine ⟨by decide, by show (0 : Int) < 1; decide, rpC r, by kernel_rfl, by kernel_rfl, ?_⟩
      conv => whnf
      refine Eq.mp ?_ hQ
      kernel_rfl
    · rename_i h1
      have h1 := of_decide_eq_false h1
      rw [hl] at h1
      have hs : sigM m = m.sig := by
        unfold sigM
        rw [show oneM m = false by unfold oneM; rw [show ((m.reports.length : Int) == 1) = false from beq_eq_false_iff_ne.2 h1, Bool.and_false]]
      rw [hs] at hQ
      conv => whnf
      refine Eq.mp ?_ hQ
      kernel_rfl
  · rename_i h
    have h := of_decide_eq_false h
    have hs : sigM m = m.sig := by
      unfold sigM
      rw [show oneM m = false by unfold oneM; rw [show (m.kind == 8) = false from beq_eq_false_iff_ne.2 h, Bool.false_and]]
    rw [hs] at hQ
    conv => whnf
    refine Eq.mp ?_ hQ
    kernel_rfl

set_option maxRecDepth 100000 in
theorem s74 {T : Tab} (hT : TGood Tryz.prog T) : SGood Tryz.prog 132 (flatT g74) := flatT_good g74_det g74_flat fun args Q h => by
  unfold g74 at h
  split at h
  · obtain ⟨m, rfl, hQ⟩ := h
    exact body_pure hT mixedT Tryz.func132 (entersOf Tryz.func132 (by kernel_rfl) rfl) 0 (f74_ok m T Q hQ 0)
  · exact h.elim
set_option maxRecDepth 100000 in
theorem s77 {T : Tab} (hT : TGood Tryz.prog T) : SGood Tryz.prog 131 (flatT g77) := flatT_good g77_det g77_flat fun args Q h => by
  unfold g77 at h
  split at h
  · obtain ⟨m, rfl, hQ⟩ := h
    have t0 := ext_good hT (s74 hT)
    exact body_pure t0 mixedT Tryz.func131 (entersOf Tryz.func131 (by kernel_rfl) rfl) 0 (f77_ok m T Q hQ 0)
  · exact h.elim
set_option maxRecDepth 100000 in
theorem s72 {T : Tab} (hT : TGood Tryz.prog T) : SGood Tryz.prog 62 (pureT g72) := pureT_good g72_det fun args Q h => by
  unfold g72 at h
  split at h
  · obtain ⟨m, rfl, hQ⟩ := h
    exact body_pure hT mixedT Tryz.func62 (entersOf Tryz.func62 (by kernel_rfl) rfl) 0 (f72_ok m T Q hQ 0)
  · exact h.elim
set_option maxRecDepth 100000 in
theorem s69 {T : Tab} (hT : TGood Tryz.prog T) : SGood Tryz.prog 56 (freshT g69) := freshT_good g69_det fun args Q h => by
  unfold g69 at h
  split at h
  · obtain ⟨r, rfl, hQ⟩ := h
    exact body_fresh hT mixedT Tryz.func56 (entersOf Tryz.func56 (by kernel_rfl) rfl) 0 (f69_ok r T Q hQ 0)
  · exact h.elim
end Go.Abs

/-
vote.sealed is what it comes to.
-/
namespace Go.Abs
open Go Go.Proofs

def withSig (m : MsV) (s : List Int) : MsV := cond (oneM m) { m with reports := m.reports.map fun r => { r with sig := s } } { m with sig := s }
def bareM (m : MsV) : MsV := withSig m []
def sealB (m : MsV) : List Int := cond (encE (bareM m) == 0) (encS (bareM m) 15).1 []
theorem one_cases (m : MsV) : (∃ r, oneM m = true ∧ m.kind = 8 ∧ m.reports = [r]) ∨ oneM m = false := by
  unfold oneM
  by_cases h1 : m.kind = 8
  · by_cases h2 : (m.reports.length : Int) = 1
    · obtain ⟨r, hr⟩ : ∃ r, m.reports = [r] := List.length_eq_one_iff.1 (by omega)
      exact .inl ⟨r, by rw [h1, hr]; rfl, h1, hr⟩
    · exact .inr (by rw [show ((m.reports.length : Int) == 1) = false from beq_eq_false_iff_ne.2 h2, Bool.and_false])
  · exact .inr (by rw [show (m.kind == 8) = false from beq_eq_false_iff_ne.2 h1, Bool.false_and])
theorem bare_ok {m : MsV} (h : OkM m) : OkM (bareM m) := by
  have hn : okT ([] : List Int) := ⟨fun b hb => absurd hb List.not_mem_nil, Nat.zero_le _⟩
  rcases one_cases m with ⟨r, h1, h2, h3⟩ | h1
  · have : bareM m = { m with reports := [{ r with sig := [] }] } := by unfold bareM withSig; rw [h1, h3]; rfl
    rw [this]
    obtain ⟨a1, a2, a3, a4, a5, a6, a7, a8, a9⟩ := h
    refine ⟨a1, a2, a3, a4, a5, a6, a7, a8, by simp, fun v hv => ?_⟩
    simp only [List.mem_singleton] at hv
    subst hv
    obtain ⟨b1, b2, b3, b4⟩ := a9.2 r (by rw [h3]; simp)
    exact ⟨b1, b2, b3, hn⟩
  · have : bareM m = { m with sig := [] } := by unfold bareM withSig; rw [h1]; rfl
    rw [this]
    obtain ⟨a1, a2, a3, a4, a5, a6, a7, a8, a9⟩ := h
    exact ⟨a1, a2, a3, hn, a5, a6, a7, a8, a9⟩
theorem bare_c (m : MsV) : cM (bareM m) ≤ cM m := by
  rcases one_cases m with ⟨r, h1, h2, h3⟩ | h1
  · have : bareM m = { m with reports := [{ r with sig := [] }] } := by unfold bareM withSig; rw [h1, h3]; rfl
    rw [this]
    simp only [cM, h3, sumN, List.map_cons, List.map_nil, List.sum_cons, List.sum_nil, cRp, cT, List.length_nil]
    omega
  · have : bareM m = { m with sig := [] } := by unfold bareM withSig; rw [h1]; rfl
    rw [this]
    simp only [cM, cT, List.length_nil]
    omega

def g67 : GSpec := fun args K => match args with
  | [.agg cs, .int .i64 signer] => ∃ m : MsV, cs = msC m ∧ OkM m ∧ cM m ≤ 1073741824 ∧ K (.ret (.tuple [.agg [.int .i64 (replK signer), .str (domS m), .slice (partsA [sealB m])], .bool (encE (bareM m) == 0)]))
  | _ => False
theorem g67_det (args : List AV) : Det (g67 args) := by
  unfold g67
  repeat' (first | exact Det.no | exact Det.at _ | refine Det.and ?_ | refine Det.ex fun _ => ?_ | refine Det.cond ?_ ?_ | split)
def t67 (T : Tab) : Tab := ext (ext (ext T 56 (freshT g69)) 15 (freshT g16)) 94 (flatT g120)

set_option maxRecDepth 100000 in
set_option maxHeartbeats 8000000 in
theorem f67_one (m : MsV) (r : RpV) (h1 : oneM m = true) (hk : m.kind = 8) (hr : m.reports = [r]) (hm : OkM m) (hc : cM m ≤ 1073741824) (signer : Int) (T : Tab) (Q : AOut → Prop)
    (hQ : Q (.ret (.tuple [.agg [.int .i64 (replK signer), .str (domS m), .slice (partsA [sealB m])], .bool (encE (bareM m) == 0)]))) (N : Nat) :
    abody Tryz.prog (t67 T) 0 N Tryz.f54 [.agg (msC m), .int .i64 signer] [] (fun out Hs => Q (frzO Hs out)) := by
  have hb := bare_ok hm
  have hbc := Nat.le_trans (bare_c m) hc
  have hbe : bareM m = { m with reports := [{ r with sig := [] }] } := by unfold bareM withSig; rw [h1, hr]; rfl
  have hd : domS m = reportS := by unfold domS; rw [h1]; rfl
  unfold sealB at hQ
  rw [hd] at hQ
  generalize bareM m = m' at hb hbc hbe hQ
  obtain ⟨kind, bal, slot, from_, to, index, count, req, other, data, sig, cert, votes, order, picks, reports⟩ := m
  dsimp only at hk hr hbe
  subst hk; subst hr
  conv => whnf
  refine ⟨r, rfl, ?_⟩
  conv => whnf
  refine ⟨by kernel_rfl, by decide, by show (0 : Int) < 1; decide, ?_⟩
  conv => whnf
  refine ⟨rpC r, by kernel_rfl, of_decide_eq_true (by kernel_rfl), ?_⟩
  conv => whnf
  refine ⟨m', ?_, hb, hbc, ?_⟩
  · rw [hbe]; kernel_rfl
  clear hb hbc hbe
  unfold encK
  generalize (encS m' 15).1 = bs at hQ ⊢
  cases he : (encE m' == 0) with
  | true =>
    rw [he] at hQ
    have hQ2 : Q (.ret (.tuple [.agg [.int .i64 (replK signer), .str reportS, .slice [[.slice (((bsA bs).drop 0).take bs.length)]]], .bool true])) := by
      rw [List.drop_zero, List.take_of_length_le (by simp)]
      exact hQ
    conv => whnf
    refine Eq.mp ?_ hQ2
    kernel_rfl
  | false =>
    rw [he] at hQ
    have hQ2 : Q (.ret (.tuple [.agg [.int .i64 (replK signer), .str reportS, .slice (partsA [[]])], .bool (encE m' == 0)])) := by
      rw [he]
      exact hQ
    conv => whnf
    refine Eq.mp ?_ hQ2
    kernel_rfl

set_option maxRecDepth 100000 in
set_option maxHeartbeats 8000000 in
theorem f67_not (m : MsV) (h1 : oneM m = false) (hm : OkM m) (hc : cM m ≤ 1073741824) (signer : Int) (T : Tab) (Q : AOut → Prop)
    (hQ : Q (.ret (.tuple [.agg [.int .i64 (replK signer), .str (domS m), .slice (partsA [sealB m])], .bool (encE (bareM m) == 0)]))) (N : Nat) :
    abody Tryz.prog (t67 T) 0 N Tryz.f54 [.agg (msC m), .int .i64 signer] [] (fun out Hs => Q (frzO Hs out)) := by
  have hb := bare_ok hm
  have hbc := Nat.le_trans (bare_c m) hc
  have hbe : bareM m = { m with sig := [] } := by unfold bareM withSig; rw [h1]; rfl
  have hd : domS m = messageS := by unfold domS; rw [h1]; rfl
  have hl : ((rpCL m.reports).length : Int) = m.reports.length := by rw [rpCL_length]
  unfold sealB at hQ
  rw [hd] at hQ
  unfold oneM at h1
  rw [← hl] at h1
  generalize bareM m = m' at hb hbc hbe hQ
  conv => whnf
  split
  · rename_i h; rw [h] at h1
    conv => whnf
    split
    · rename_i h2
      have h2' : (true && (((rpCL m.reports).length : Int) == 1)) = true := h2
      rw [h2'] at h1; cases h1
    conv => whnf
    refine ⟨m', ?_, hb, hbc, ?_⟩
    · rw [hbe]; kernel_rfl
    clear hb hbc hbe
    unfold encK
    generalize (encS m' 15).1 = bs at hQ ⊢
    cases he : (encE m' == 0) with
    | true =>
      rw [he] at hQ
      have hQ2 : Q (.ret (.tuple [.agg [.int .i64 (replK signer), .str messageS, .slice [[.slice (((bsA bs).drop 0).take bs.length)]]], .bool true])) := by
        rw [List.drop_zero, List.take_of_length_le (by simp)]
        exact hQ
      conv => whnf
      refine Eq.mp ?_ hQ2
      kernel_rfl
    | false =>
      rw [he] at hQ
      have hQ2 : Q (.ret (.tuple [.agg [.int .i64 (replK signer), .str messageS, .slice (partsA [[]])], .bool (encE m' == 0)])) := by
        rw [he]
        exact hQ
      conv => whnf
      refine Eq.mp ?_ hQ2
      kernel_rfl
  · rename_i h
    conv => whnf
    refine ⟨m', ?_, hb, hbc, ?_⟩
    · rw [hbe]; kernel_rfl
    clear hb hbc hbe
    unfold encK
    generalize (encS m' 15).1 = bs at hQ ⊢
    cases he : (encE m' == 0) with
    | true =>
      rw [he] at hQ
      have hQ2 : Q (.ret (.tuple [.agg [.int .i64 (replK signer), .str messageS, .slice [[.slice (((bsA bs).drop 0).take bs.length)]]], .bool true])) := by
        rw [List.drop_zero, List.take_of_length_le (by simp)]
        exact hQ
      conv => whnf
      refine Eq.mp ?_ hQ2
      kernel_rfl
    | false =>
      rw [he] at hQ
      have hQ2 : Q (.ret (.tuple [.agg [.int .i64 (replK signer), .str messageS, .slice (partsA [[]])], .bool (encE m' == 0)])) := by
        rw [he]
        exact hQ
      conv => whnf
      refine Eq.mp ?_ hQ2
      kernel_rfl
set_option maxRecDepth 100000 in
theorem s67 {T : Tab} (hT : TGood Tryz.prog T) : SGood Tryz.prog 54 (pureT g67) := pureT_good g67_det fun args Q h => by
  unfold g67 at h
  split at h
  · obtain ⟨m, rfl, hm, hc, hQ⟩ := h
    have t0 := ext_good hT (s69 hT)
    have t1 := ext_good t0 (s16 t0)
    have t2 : TGood Tryz.prog (t67 _) := ext_good t1 (s120 t1)
    rcases one_cases m with ⟨r, h1, h2, h3⟩ | h1
    · exact body_pure t2 mixedT Tryz.func54 (entersOf Tryz.func54 (by kernel_rfl) rfl) 0 (f67_one m r h1 h2 h3 hm hc _ T Q hQ 0)
    · exact body_pure t2 mixedT Tryz.func54 (entersOf Tryz.func54 (by kernel_rfl) rfl) 0 (f67_not m h1 hm hc _ T Q hQ 0)
  · exact h.elim
end Go.Abs

/-
vote.SealText, Seal, Sealed are what they come to.
-/
namespace Go.Abs
open Go Go.Proofs

theorem encS_okB' {m : MsV} (hm : OkM m) : ∀ i, okB (encS m i).1
  | 0 => wNum_b _ _ (fun b hb => absurd hb List.not_mem_nil)
  | i + 1 => by
    have h := encS_okB' hm i
    unfold encS
    cases hasF m.kind i with
    | true => exact wField_b hm i _ h
    | false => exact h
theorem encE_le {m : MsV} (h : (encE m == 0) = true) : (encS m 15).1.length ≤ 1048576 := by
  have h : encE m = 0 := of_decide_eq_true h
  unfold encE at h
  split at h
  · cases h
  split at h
  · cases h
  split at h
  · cases h
  split at h
  · cases h
  omega
theorem seal_okP {m : MsV} (hm : OkM m) (h : (encE (bareM m) == 0) = true) : okP [sealB m] := by
  have h1 := encS_okB' (bare_ok hm) 15
  have h2 := encE_le h
  have hb : sealB m = (encS (bareM m) 15).1 := by unfold sealB; rw [h]; rfl
  rw [hb]
  refine ⟨by simp, fun p hp => ?_, ?_⟩
  · rw [List.mem_singleton] at hp; subst hp; exact h1
  · have h3 := encI_len ((encS (bareM m) 15).1.length)
    simp only [packL, encB, List.map_cons, List.map_nil, List.flatten_cons, List.flatten_nil, List.length_append, List.length_nil]
    omega
theorem domS_le (m : MsV) : (domS m).size ≤ 1000 := by
  unfold domS
  cases oneM m <;> decide
def sealT (m : MsV) (signer : Int) : List Int := cond (encE (bareM m) == 0) (textK (replK signer) (domS m) [sealB m]) []
def sealS (m : MsV) (signer : Int) : List Int := cond (encE (bareM m) == 0) (signK (replK signer) (domS m) [sealB m]) []
def sealOk (m : MsV) (signer : Int) : Bool := cond (encE (bareM m) == 0) (cond (decide (((bsA (textK (replK signer) (domS m) [sealB m])).length : Int) > 0)) (decide (sigM m = signK (replK signer) (domS m) [sealB m])) false) false

def g28 : GSpec := fun args K => match args with
  | [.agg cs, .int .i64 signer] => ∃ m : MsV, cs = msC m ∧ OkM m ∧ cM m ≤ 1073741824 ∧ K (.ret (.slice (bsA (sealT m signer))))
  | _ => False
theorem g28_det (args : List AV) : Det (g28 args) := by
  unfold g28
  repeat' (first | exact Det.no | exact Det.at _ | refine Det.and ?_ | refine Det.ex fun _ => ?_ | refine Det.cond ?_ ?_ | split)
def g27 : GSpec := fun args K => match args with
  | [.agg cs, .int .i64 signer] => ∃ m : MsV, cs = msC m ∧ OkM m ∧ cM m ≤ 1073741824 ∧ K (.ret (.agg (msC (withSig m (sealS m signer)))))
  | _ => False
theorem g27_det (args : List AV) : Det (g27 args) := by
  unfold g27
  repeat' (first | exact Det.no | exact Det.at _ | refine Det.and ?_ | refine Det.ex fun _ => ?_ | refine Det.cond ?_ ?_ | split)
def g29 : GSpec := fun args K => match args with
  | [.agg cs, .int .i64 signer] => ∃ m : MsV, cs = msC m ∧ OkM m ∧ cM m ≤ 1073741824 ∧ K (.ret (.bool (sealOk m signer)))
  | _ => False
theorem g29_det (args : List AV) : Det (g29 args) := by
  unfold g29
  repeat' (first | exact Det.no | exact Det.at _ | refine Det.and ?_ | refine Det.ex fun _ => ?_ | refine Det.cond ?_ ?_ | split)
theorem g29_flat (args : List AV) (o : AOut) (h : g29 args (· = o)) : flatO o = true := by
  unfold g29 at h
  split at h
  · obtain ⟨_, _, _, _, rfl⟩ := h; rfl
  · exact h.elim
set_option maxRecDepth 100000 in
set_option maxHeartbeats 8000000 in
theorem f29_ok (m : MsV) (hm : OkM m) (hc : cM m ≤ 1073741824) (hsg : okB (sigM m)) (signer : Int) (T : Tab) (Q : AOut → Prop) (hQ : Q (.ret (.bool (sealOk m signer)))) (N : Nat) :
    abody Tryz.prog (ext (ext (ext (ext (ext T 54 (pureT g67)) 60 (pureT (methG textK))) 62 (pureT g72)) 55 (pureT (methG signK))) 61 (flatT g18)) 0 N Tryz.f18 [.agg (msC m), .int .i64 signer] [] (fun out Hs => Q (frzO Hs out)) := by
  have hp := seal_okP hm
  have hd := domS_le m
  unfold sealOk at hQ
  conv => whnf
  refine ⟨m, rfl, hm, hc, ?_⟩
  generalize (encE (bareM m) == 0) = e at hQ hp ⊢
  generalize sealB m = b at hQ hp ⊢
  generalize domS m = d at hQ hd ⊢
  generalize replK signer = k at hQ ⊢
  cases e with
  | false =>
    conv => whnf
    refine ⟨[], ?_⟩
    conv => whnf
    refine Eq.mp ?_ hQ
    kernel_rfl
  | true =>
    conv => whnf
    refine ⟨[], ?_⟩
    conv => whnf
    refine ⟨[b], rfl, hp rfl, hd, ?_⟩
    have hso : okB (signK k d [b]) := signK_ok _ _ _
    replace hQ : Q (.ret (.bool (cond (decide (((bsA (textK k d [b])).length : Int) > 0)) (decide (sigM m = signK k d [b])) false))) := hQ
    generalize textK k d [b] = t at hQ ⊢
    conv => whnf
    repeat (refine ⟨rfl, ?_⟩; conv => whnf)
    generalize decide (((bsA t).length : Int) > 0) = g at hQ ⊢
    cases g with
    | true =>
      replace hQ : Q (.ret (.bool (decide (sigM m = signK k d [b])))) := hQ
      conv => whnf
      refine ⟨m, rfl, ?_⟩
      generalize sigM m = s at hQ hsg ⊢
      conv => whnf
      repeat (refine ⟨rfl, ?_⟩; conv => whnf)
      refine ⟨[b], rfl, hp rfl, hd, ?_⟩
      generalize signK k d [b] = sg at hQ hso ⊢
      conv => whnf
      repeat (refine ⟨rfl, ?_⟩; conv => whnf)
      refine ⟨s, sg, rfl, rfl, hsg, hso, ?_⟩
      conv => whnf
      repeat (refine ⟨rfl, ?_⟩; conv => whnf)
      refine Eq.mp ?_ hQ
      kernel_rfl
    | false =>
      conv => whnf
      repeat (refine ⟨rfl, ?_⟩; conv => whnf)
      refine Eq.mp ?_ hQ
      kernel_rfl
theorem sigM_ok {m : MsV} (hm : OkM m) : okB (sigM m) := by
  rcases one_cases m with ⟨r, h1, h2, h3⟩ | h1
  · unfold sigM; rw [h1, h3]
    exact (hm.reports.2 r (by rw [h3]; simp)).2.2.2.1
  · unfold sigM; rw [h1]
    exact hm.sig.1
set_option maxRecDepth 100000 in
theorem s29 {T : Tab} (hT : TGood Tryz.prog T) : SGood Tryz.prog 18 (flatT g29) := flatT_good g29_det g29_flat fun args Q h => by
  unfold g29 at h
  split at h
  · obtain ⟨m, rfl, hm, hc, hQ⟩ := h
    have t0 := ext_good hT (s67 hT)
    have t1 := ext_good t0 (s70 t0)
    have t2 := ext_good t1 (s72 t1)
    have t3 := ext_good t2 (s68 t2)
    exact body_pure (ext_good t3 (s71 t3)) mixedT Tryz.func18 (entersOf Tryz.func18 (by kernel_rfl) rfl) 0 (f29_ok m hm hc (sigM_ok hm) _ T Q hQ 0)
  · exact h.elim
end Go.Abs

/-
vote.Seal is what it comes to.
-/
namespace Go.Abs
open Go Go.Proofs

def t27 (T : Tab) : Tab := ext (ext (ext T 54 (pureT g67)) 55 (pureT (methG signK))) 56 (freshT g69)

set_option maxRecDepth 100000 in
set_option maxHeartbeats 8000000 in
theorem f27_one (m : MsV) (r : RpV) (h1 : oneM m = true) (hk : m.kind = 8) (hr : m.reports = [r]) (hm : OkM m) (hc : cM m ≤ 1073741824) (signer : Int) (T : Tab) (Q : AOut → Prop) (hQ : Q (.ret (.agg (msC (withSig m (sealS m signer)))))) (N : Nat) :
    abody Tryz.prog (t27 T) 0 N Tryz.f16 [.agg (msC m), .int .i64 signer] [] (fun out Hs => Q (frzO Hs out)) := by
  have hp := seal_okP hm
  have hd := domS_le m
  have hw : ∀ s, withSig m s = { m with reports := [{ r with sig := s }] } := fun s => by unfold withSig; rw [h1, hr]; rfl
  rw [hw] at hQ
  clear hw
  unfold sealS at hQ
  conv => whnf
  refine ⟨m, rfl, hm, hc, ?_⟩
  generalize (encE (bareM m) == 0) = e at hQ hp ⊢
  generalize sealB m = b at hQ hp ⊢
  generalize domS m = d at hQ hd ⊢
  generalize replK signer = k at hQ ⊢
  clear hm hc
  obtain ⟨kind, bal, slot, from_, to, index, count, req, other, data, sig, cert, votes, order, picks, reports⟩ := m
  clear h1
  dsimp only at hk hr
  subst hk; subst hr
  cases e with
  | false =>
    conv => whnf
    refine ⟨r, rfl, ?_⟩
    conv => whnf
    refine ⟨by kernel_rfl, by decide, by show (0 : Int) < 1; decide, ?_⟩
    conv => whnf
    refine ⟨rpC r, by kernel_rfl, of_decide_eq_true (by kernel_rfl), ?_⟩
    conv => whnf
    refine Eq.mp ?_ hQ
    kernel_rfl
  | true =>
    conv => whnf
    refine ⟨[b], rfl, hp rfl, hd, ?_⟩
    generalize signK k d [b] = sg at hQ ⊢
    conv => whnf
    refine ⟨r, rfl, ?_⟩
    conv => whnf
    refine ⟨by kernel_rfl, by decide, by show (0 : Int) < 1; decide, ?_⟩
    conv => whnf
    refine ⟨rpC r, by kernel_rfl, of_decide_eq_true (by kernel_rfl), ?_⟩
    conv => whnf
    refine Eq.mp ?_ hQ
    kernel_rfl

set_option maxRecDepth 100000 in
set_option maxHeartbeats 8000000 in
theorem f27_not (m : MsV) (h1 : oneM m = false) (hm : OkM m) (hc : cM m ≤ 1073741824) (signer : Int) (T : Tab) (Q : AOut → Prop) (hQ : Q (.ret (.agg (msC (withSig m (sealS m signer)))))) (N : Nat) :
    abody Tryz.prog (t27 T) 0 N Tryz.f16 [.agg (msC m), .int .i64 signer] [] (fun out Hs => Q (frzO Hs out)) := by
  have hp := seal_okP hm
  have hd := domS_le m
  have hl : ((rpCL m.reports).length : Int) = m.reports.length := by rw [rpCL_length]
  have hw : ∀ s, withSig m s = { m with sig := s } := fun s => by unfold withSig; rw [h1]; rfl
  unfold oneM at h1
  rw [← hl] at h1
  clear hl
  rw [hw] at hQ
  clear hw
  unfold sealS at hQ
  conv => whnf
  refine ⟨m, rfl, hm, hc, ?_⟩
  generalize (encE (bareM m) == 0) = e at hQ hp ⊢
  generalize sealB m = b at hQ hp ⊢
  generalize domS m = d at hQ hd ⊢
  generalize replK signer = k at hQ ⊢
  clear hm hc
  obtain ⟨kind, bal, slot, from_, to, index, count, req, other, data, sig, cert, votes, order, picks, reports⟩ := m
  dsimp only at h1
  cases e with
  | false =>
    conv => whnf
    split
    · rename_i h
      have h : (kind == 8) = true := h
      rw [h] at h1
      conv => whnf
      split
      · rename_i h2
        have h2' : (true && (((rpCL reports).length : Int) == 1)) = true := h2
        rw [h2'] at h1; cases h1
      conv => whnf
      refine Eq.mp ?_ hQ
      kernel_rfl
    · rename_i h
      conv => whnf
      refine Eq.mp ?_ hQ
      kernel_rfl
  | true =>
    conv => whnf
    refine ⟨[b], rfl, hp rfl, hd, ?_⟩
    generalize signK k d [b] = sg at hQ ⊢
    conv => whnf
    split
    · rename_i h
      have h : (kind == 8) = true := h
      rw [h] at h1
      conv => whnf
      split
      · rename_i h2
        have h2' : (true && (((rpCL reports).length : Int) == 1)) = true := h2
        rw [h2'] at h1; cases h1
      conv => whnf
      refine Eq.mp ?_ hQ
      kernel_rfl
    · rename_i h
      conv => whnf
      refine Eq.mp ?_ hQ
      kernel_rfl

set_option maxRecDepth 100000 in
theorem s27 {T : Tab} (hT : TGood Tryz.prog T) : SGood Tryz.prog 16 (pureT g27) := pureT_good g27_det fun args Q h => by
  unfold g27 at h
  split at h
  · obtain ⟨m, rfl, hm, hc, hQ⟩ := h
    have t0 := ext_good hT (s67 hT)
    have t1 := ext_good t0 (s68 t0)
    have t2 : TGood Tryz.prog (t27 _) := ext_good t1 (s69 t1)
    rcases one_cases m with ⟨r, h1, h2, h3⟩ | h1
    · exact body_pure t2 mixedT Tryz.func16 (entersOf Tryz.func16 (by kernel_rfl) rfl) 0 (f27_one m r h1 h2 h3 hm hc _ T Q hQ 0)
    · exact body_pure t2 mixedT Tryz.func16 (entersOf Tryz.func16 (by kernel_rfl) rfl) 0 (f27_not m h1 hm hc _ T Q hQ 0)
  · exact h.elim
end Go.Abs

