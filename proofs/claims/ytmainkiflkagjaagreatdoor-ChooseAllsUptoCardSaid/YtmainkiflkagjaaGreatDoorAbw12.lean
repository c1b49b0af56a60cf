/-
(*bytes.Buffer).Len, Bytes are what they come to.
-/
import Derived.Test.YtmainkiflkagjaaGreatDoorAbw9
import Derived.Test.YtmainkiflkagjaaGreatDoorAbw6
import Derived.Test.YtmainkiflkagjaaGreatDoorAbw7
namespace Go.Abs
open Go Go.Proofs
variable {P : Program}

/-- A look at a writer. -/
def peekT (res : Nat → Nat → AV) : Spec := fun args H Q => match args with
  | [.ptr b o] => match o, H[b]? with
    | 0, some (.var [.row r, .int .i64 z, .int .i8 y, .bool _]) => match H[r]? with
      | some (.row true e sz es) => cond (decide (z = 0) && decide (y = 0)) (cond (Nat.beq e 5 && Nat.beq sz 1) (es.length ≤ 1099511627776 ∧ Q (.ret (res r es.length)) H) False) False
      | _ => False
    | _, _ => False
  | _ => False

theorem peekT_inv {res : Nat → Nat → AV} {args : List AV} {H : Heap} {Q : AOut → Heap → Prop} (h : peekT res args H Q) :
    ∃ b r es bad, args = [.ptr b 0] ∧ H[b]? = some (wvar r bad) ∧ H[r]? = some (wrow es) ∧ es.length ≤ 1099511627776 ∧ Q (.ret (res r es.length)) H := by
  unfold peekT at h
  split at h
  case h_2 => exact h.elim
  split at h
  case h_2 => exact h.elim
  split at h
  case h_2 => exact h.elim
  rename_i hr
  replace h := cond_zy h
  obtain ⟨rfl, rfl, h⟩ := h
  replace h := cond_es h
  obtain ⟨rfl, rfl, h⟩ := h
  exact ⟨_, _, _, _, rfl, by assumption, hr, h.1, h.2⟩
theorem peekT_mk {res : Nat → Nat → AV} {b r : Nat} {es : List (List AV)} {bad : Bool} {H : Heap} {Q : AOut → Heap → Prop} (hb : H[b]? = some (wvar r bad)) (hr : H[r]? = some (wrow es)) (hl : es.length ≤ 1099511627776)
    (hQ : Q (.ret (res r es.length)) H) : peekT res [.ptr b 0] H Q := by
  unfold peekT
  simp only [hb, wvar, hr, wrow]
  exact ⟨hl, hQ⟩

theorem peekT_good {f : FuncId} {res : Nat → Nat → AV} (hres : ∀ (ρ : Nat → Option Nat) r r' n, ρ r = some r' → ren ρ (res r n) = res r' n)
    (h : ∀ l bad (Q : AOut → Heap → Prop), l.length ≤ 1099511627776 → Q (.ret (res 1 l.length)) [wvar 1 bad, wrow l] → FOK P f [.ptr 0 0] [wvar 1 bad, wrow l] Q) : SGood P f (peekT res) where
  ok := fun args H Q hg => by
    obtain ⟨b, r, es, bad, rfl, hb, hr, hl, hQ⟩ := peekT_inv hg
    have hne : b ≠ r := fun e => by subst e; rw [hb] at hr; cases hr
    have hbl : b < H.length := (List.getElem?_eq_some_iff.1 hb).1
    have hrl : r < H.length := (List.getElem?_eq_some_iff.1 hr).1
    have i0 : ([b, r] : List Nat).idxOf? b = some 0 := by simp [List.idxOf?, List.findIdx?_cons]
    have i1 : ([b, r] : List Nat).idxOf? r = some 1 := by simp [List.idxOf?, List.findIdx?_cons, hne]
    refine sub_call (ids := [b, r]) (by simp [hne]) (fun x hx => by simp at hx; rcases hx with rfl | rfl <;> assumption) ?_
    have e1 : renL (([b, r] : List Nat).idxOf? ·) [.ptr b 0] = [.ptr 0 0] := by
      simp only [renL, ren, i0]
    have e2 : subH H [b, r] = [wvar 1 bad, wrow es] := by
      simp only [subH, List.map_cons, List.map_nil, List.getD_eq_getElem?_getD, hb, hr, Option.getD_some, wvar, renH, renL, ren, i1]
      rfl
    rw [e1, e2]
    refine h es bad _ hl ?_
    have b0 : backN H.length [b, r] 2 0 = some b := by simp [backN]
    have b1 : backN H.length [b, r] 2 1 = some r := by simp [backN]
    have e3 : outR (backN H.length [b, r] 2) (.ret (res 1 es.length)) = .ret (res r es.length) := by simp only [outR, hres _ 1 r _ b1]
    have e4 : mergeH H [b, r] [wvar 1 bad, wrow es] = H := by
      unfold mergeH
      simp only [List.length_cons, List.length_nil, Nat.zero_add, Nat.reduceAdd, List.drop_succ_cons, List.drop_zero, List.map_nil, List.append_nil]
      refine List.ext_getElem? fun i => ?_
      rw [List.getElem?_map, List.getElem?_zipIdx]
      by_cases hir : i = r
      · subst hir
        rw [hr]
        simp [i1, renH, wrow]
      · by_cases hib : i = b
        · subst hib
          rw [hb]
          simp only [Option.map_some, Nat.zero_add, i0, List.getD_cons_zero, wvar, renH, renL, ren, b1]
        · cases hi : H[i]? with
          | none => rfl
          | some o =>
            have : ([b, r] : List Nat).idxOf? i = none := by rw [List.idxOf?_eq_none_iff]; simp [hib, hir]
            simp [this]
    simp only [List.length_cons, List.length_nil] at *
    rw [e3, e4]
    exact hQ
  ang := fun args H K hg => by
    obtain ⟨b, r, es, bad, rfl, hb, hr, hl, hQ⟩ := peekT_inv hg
    exact ⟨_, _, peekT_mk hb hr hl ⟨rfl, rfl⟩, hQ⟩
  mono := fun args H K K' hk hg => by
    obtain ⟨b, r, es, bad, rfl, hb, hr, hl, hQ⟩ := peekT_inv hg
    exact peekT_mk hb hr hl (hk _ _ hQ)

def resLen (_ n : Nat) : AV := .int .i64 n
def resBytes (r n : Nat) : AV := .srow r 0 n

set_option maxRecDepth 100000 in
set_option maxHeartbeats 4000000 in
theorem f50_ok (l : List (List AV)) (bad : Bool) (hl : l.length ≤ 1099511627776) (T : Tab) (Q : AOut → Heap → Prop) (hQ : Q (.ret (.int .i64 l.length)) [wvar 1 bad, wrow l]) (N : Nat) :
    abody Tryz.prog T 2 N Tryz.f52 [.ptr 0 0] [wvar 1 bad, wrow l] Q := by
  have hw : IntKind.i64.wrap ((l.length : Int) - 0) = (l.length : Int) := by rw [IntWalk.i64_in _ (by omega)]; omega
  conv => whnf
  refine ⟨[], ?_⟩
  conv => whnf
  rw [← hw] at hQ
  refine Eq.mp ?_ hQ
  kernel_rfl

set_option maxRecDepth 100000 in
set_option maxHeartbeats 4000000 in
theorem f51_ok (l : List (List AV)) (bad : Bool) (T : Tab) (Q : AOut → Heap → Prop) (hQ : Q (.ret (.srow 1 0 l.length)) [wvar 1 bad, wrow l]) (N : Nat) :
    abody Tryz.prog T 2 N Tryz.f53 [.ptr 0 0] [wvar 1 bad, wrow l] Q := by
  conv => whnf
  refine ⟨[], ?_⟩
  conv => whnf
  refine ⟨rfl, ⟨by omega, by omega⟩, ?_⟩
  conv => whnf
  refine Eq.mp ?_ hQ
  kernel_rfl

set_option maxRecDepth 100000 in
theorem s50 {T : Tab} (hT : TGood Tryz.prog T) : SGood Tryz.prog 52 (peekT resLen) := peekT_good (fun _ _ _ _ _ => rfl) fun l bad Q hl hQ =>
  abody_sound hT.ok hT.ang hT.mono mixedT Tryz.func52 (entersOf Tryz.func52 (by kernel_rfl) rfl) (f50_ok l bad hl T Q hQ 0)
set_option maxRecDepth 100000 in
theorem s51 {T : Tab} (hT : TGood Tryz.prog T) : SGood Tryz.prog 53 (peekT resBytes) := peekT_good (fun ρ r r' n h => by simp only [resBytes, ren, h]) fun l bad Q _ hQ =>
  abody_sound hT.ok hT.ang hT.mono mixedT Tryz.func53 (entersOf Tryz.func53 (by kernel_rfl) rfl) (f51_ok l bad T Q hQ 0)

end Go.Abs

/-
msg.empty is what it comes to.
-/
namespace Go.Abs
open Go Go.Proofs

def g49 : GSpec := fun args K => match args with
  | [.agg cs, .int .i32 f] => ∃ (m : MsV) (i : Nat), cs = msC m ∧ OkM m ∧ i < 15 ∧ f = letter i ∧ cM m ≤ 1073741824 ∧ K (.ret (.bool (emptyF m i)))
  | _ => False
theorem g49_det (args : List AV) : Det (g49 args) := by
  unfold g49
  repeat' (first | exact Det.no | exact Det.at _ | refine Det.and ?_ | refine Det.ex fun _ => ?_ | refine Det.cond ?_ ?_ | split)
theorem g49_flat (args : List AV) (o : AOut) (h : g49 args (· = o)) : flatO o = true := by
  unfold g49 at h
  split at h
  · obtain ⟨_, _, _, _, _, _, _, rfl⟩ := h; rfl
  · exact h.elim

set_option maxRecDepth 100000 in
set_option maxHeartbeats 4000000 in
theorem f49_ok (m : MsV) (hm : OkM m) (i : Nat) (hi : i < 15) (hc : cM m ≤ 1073741824) (T : Tab) (Q : AOut → Prop) (hQ : Q (.ret (.bool (emptyF m i)))) (N : Nat) :
    abody Tryz.prog (ext (ext (ext T 50 (writerT g48)) 53 (peekT resBytes)) 61 (flatT g18)) 0 N Tryz.f51 [.agg (msC m), .int .i32 (letter i)] [] (fun out Hs => Q (frzO Hs out)) := by
  have hl1 := wField_c m i ([], false)
  have hl2 := wField_c zM i ([], false)
  have hz := cM_z
  have hb1 := wField_b hm i ([], false) okB_nil
  have hb2 := wField_b okM_z i ([], false) okB_nil
  simp only [List.length_nil, Nat.zero_add] at hl1 hl2
  conv => whnf
  refine ⟨m, i, rfl, hm, hi, rfl, [], rfl, by omega, ?_⟩
  conv => whnf
  refine ⟨zM, i, rfl, okM_z, hi, rfl, [], rfl, by omega, ?_⟩
  unfold emptyF at hQ
  cases hbad : (wField m i ([], false)).2 with
  | true =>
    rw [hbad] at hQ
    conv => whnf
    refine Eq.mp ?_ hQ
    kernel_rfl
  | false =>
    rw [hbad] at hQ
    conv => whnf
    refine ⟨by rw [bsA_length]; omega, ?_⟩
    conv => whnf
    refine ⟨by rw [bsA_length]; omega, ?_⟩
    conv => whnf
    refine ⟨_, _, List.take_of_length_le (by simp), List.take_of_length_le (by simp), hb1, hb2, ?_⟩
    conv => whnf
    refine Eq.mp ?_ hQ
    kernel_rfl

set_option maxRecDepth 100000 in
theorem s49 {T : Tab} (hT : TGood Tryz.prog T) : SGood Tryz.prog 51 (flatT g49) := flatT_good g49_det g49_flat fun args Q h => by
  unfold g49 at h
  split at h
  · obtain ⟨m, i, rfl, hm, hi, rfl, hc, hQ⟩ := h
    have h1 := ext_good hT (s48 hT)
    have h2 := ext_good h1 (s51 h1)
    exact body_pure (ext_good h2 (s71 h2)) mixedT Tryz.func51 (entersOf Tryz.func51 (by kernel_rfl) rfl) 0 (f49_ok m hm i hi hc T Q hQ 0)
  · exact h.elim
end Go.Abs

/-
msg.Encode is what it comes to.
-/
namespace Go.Abs
open Go Go.Proofs

def allL : List Int := [98, 115, 102, 116, 105, 99, 114, 111, 100, 103, 101, 118, 112, 107, 113]
theorem allL_get : ∀ i : Fin 15, allL[i.val]? = some (letter i.val) := by decide
theorem allL_okA : okA allL := by unfold okA; decide
def hasF (k : Int) (i : Nat) : Bool := (fieldsL k).contains (letter i)
theorem fieldsL_prop (p : List Int → Prop) (k : Int) (h : ∀ l ∈ [[], [114], [98, 115, 114, 118], [98, 115, 114, 101, 118], [102, 116, 105, 100, 103], [98, 102, 116, 103], [98, 102, 116, 103, 101], [113], [98, 103, 112, 113], [115, 100, 118], [115, 102], [115, 102, 105, 99, 100, 103], [98, 115, 102, 105, 114, 111, 100, 103], [98], [98, 115, 112, 107], [98, 115, 114], [98, 115, 114, 101], [115, 100, 101]], p l) : p (fieldsL k) := by
  have c : ∀ {b : Bool} {x y : List Int}, p x → p y → p (cond b x y) := fun {b x y} hx hy => by cases b; exact hy; exact hx
  unfold fieldsL
  repeat' (first | refine c ?_ ?_ | (refine h _ ?_; decide))
theorem fieldsL_ok (k : Int) : okA (fieldsL k) ∧ (fieldsL k).length ≤ 1000 := by
  refine fieldsL_prop (fun l => okA l ∧ l.length ≤ 1000) k ?_
  unfold okA
  decide

/-- What is written behind i letters; are all fields that aren't there empty? -/
def encS (m : MsV) : Nat → WS
  | 0 => wNum m.kind ([], false)
  | i + 1 => cond (hasF m.kind i) (wField m i (encS m i)) (encS m i)
def empAll (m : MsV) : Nat → Bool
  | 0 => true
  | i + 1 => empAll m i && (hasF m.kind i || emptyF m i)
def encE (m : MsV) : Int :=
  if fieldsL m.kind = [] then 51 else if empAll m 15 = false then 51 else if (encS m 15).2 = true then 51 else if ((encS m 15).1.length : Int) > 1048576 then 53 else 0
theorem empAll_false (m : MsV) : ∀ (n i : Nat), i < n → hasF m.kind i = false → emptyF m i = false → empAll m n = false
  | n + 1, i, h, h1, h2 => by
    unfold empAll
    by_cases hi : i = n
    · subst hi; rw [h1, h2]; simp
    · rw [empAll_false m n i (by omega) h1 h2]; rfl
theorem encS_c (m : MsV) : ∀ i, (encS m i).1.length ≤ 6 + i * cM m
  | 0 => by have := wNum_c m.kind ([], false); simpa [encS] using this
  | i + 1 => by
    have h := encS_c m i
    have h2 := wField_c m i (encS m i)
    unfold encS
    rw [Nat.succ_mul]
    cases hasF m.kind i with
    | true => show (wField m i (encS m i)).1.length ≤ _; omega
    | false => show (encS m i).1.length ≤ _; omega

def encK (m : MsV) (K : AOut → Heap → Prop) : Prop :=
  cond (encE m == 0) (K (.ret (.tuple [.srow 0 0 (encS m 15).1.length, .int .i64 0])) [.row true 5 1 (bsA (encS m 15).1)]) (K (.ret (.tuple [.zslice, .int .i64 (encE m)])) [])
def g16 : FSpec := fun args K => match args with
  | [.agg cs] => ∃ m : MsV, cs = msC m ∧ OkM m ∧ cM m ≤ 1073741824 ∧ encK m K
  | _ => False
theorem g16_det (args : List AV) : DetF (g16 args) := by
  unfold g16 encK
  repeat' (first | exact DetF.no | exact DetF.at _ _ | refine DetF.and ?_ | refine DetF.ex fun _ => ?_ | refine DetF.cond ?_ ?_ | split)

set_option maxRecDepth 100000 in
set_option maxHeartbeats 8000000 in
theorem f16_ok (m : MsV) (hm : OkM m) (hc : cM m ≤ 1073741824) (T : Tab) (Q : AOut → Heap → Prop) (hQ : encK m Q) (N : Nat) (hN : 15 < N) :
    abody Tryz.prog (ext (ext (ext (ext (ext (ext (ext T 47 (flatT g45)) 48 (writerT g46)) 49 (flatT g47)) 50 (writerT g48)) 51 (flatT g49)) 52 (peekT resLen)) 53 (peekT resBytes)) 0 N Tryz.f15 [.agg (msC m)] [] Q := by
  have bad : ∀ e, encE m = e → e ≠ 0 → Q (.ret (.tuple [.zslice, .int .i64 e])) [] := fun e h1 h2 => by
    unfold encK at hQ
    rw [h1, show (e == 0) = false from beq_eq_false_iff_ne.2 h2] at hQ
    exact hQ
  have good : encE m = 0 → Q (.ret (.tuple [.srow 0 0 (encS m 15).1.length, .int .i64 0])) [.row true 5 1 (bsA (encS m 15).1)] := fun h1 => by
    unfold encK at hQ
    rw [h1] at hQ
    exact hQ
  clear hQ
  have hsz : ∀ i, i ≤ 15 → (encS m i).1.length ≤ 1099511627776 := fun i hi => by
    have := encS_c m i
    have := Nat.mul_le_mul_right (cM m) hi
    omega
  conv => whnf
  split
  · rename_i h1
    have h1 : ((baOf (fieldsL m.kind)).toList == (baOf []).toList) = true := h1
    rw [baOf_inj (fun b hb => by have := (fieldsL_ok m.kind).1 b hb; omega) okB_nil, decide_eq_true_eq] at h1
    have := bad 51 (by unfold encE; rw [if_pos h1]) (by decide)
    refine Eq.mp ?_ this
    kernel_rfl
  rename_i h1
  have h1 : ((baOf (fieldsL m.kind)).toList == (baOf []).toList) = false := h1
  rw [baOf_inj (fun b hb => by have := (fieldsL_ok m.kind).1 b hb; omega) okB_nil, decide_eq_false_iff_not] at h1
  conv => whnf
  refine ⟨[], rfl, hsz 0 (by omega), ?_⟩
  conv => whnf
  refine aloop_at ?_ ?_ (aloop_inv (σ := Nat) (fun i => ((sp 0 39 [(1, .ptr 0 0), (4, .str (baOf (fieldsL m.kind))), (5, .ptr 1 0), (16, .ptr 3 0)]), [.var (msC m), wvar 2 (encS m i).2, wrow (bsA (encS m i).1), .iter (baOf allL) i]))
    (fun i => i ≤ 15 ∧ empAll m i = true) (fun i => 15 - i) ?_ N 0 ⟨Nat.zero_le _, rfl⟩ (by omega))
  · kernel_rfl
  · kernel_rfl
  rintro i ⟨hi, hemp⟩ R hR
  conv => whnf
  split
  rotate_left
  · rename_i h2
    have h2 : ¬ i < (baOf allL).size := fun h => by rw [← Nat.blt_eq] at h; rw [show Nat.blt i (baOf allL).size = false from h2] at h; cases h
    rw [baOf_size] at h2
    have hi15 : i = 15 := by have : allL.length = 15 := rfl; omega
    subst hi15
    clear hR
    cases hb : (encS m 15).2 with
    | true =>
      have := bad 51 (by unfold encE; rw [if_neg h1, hemp, hb]; rfl) (by decide)
      conv => whnf
      refine Eq.mp ?_ this
      kernel_rfl
    | false =>
      conv => whnf
      refine ⟨by rw [bsA_length]; exact hsz 15 (by omega), ?_⟩
      conv => whnf
      split
      · rename_i h3
        have h3 : (((bsA (encS m 15).1).length : Nat) : Int) > 1048576 := of_decide_eq_true h3
        rw [bsA_length] at h3
        have := bad 53 (by unfold encE; rw [if_neg h1, hemp, hb, if_pos h3]; rfl) (by decide)
        conv => whnf
        refine Eq.mp ?_ this
        kernel_rfl
      · rename_i h3
        have h3 : ¬ (((bsA (encS m 15).1).length : Nat) : Int) > 1048576 := of_decide_eq_false h3
        rw [bsA_length] at h3
        have := good (by unfold encE; rw [if_neg h1, hemp, hb, if_neg h3]; rfl)
        conv => whnf
        refine ⟨by rw [bsA_length]; exact hsz 15 (by omega), ?_⟩
        conv => whnf
        rw [← bsA_length] at this
        refine Eq.mp ?_ this
        kernel_rfl
  rename_i h2
  have h2 : i < (baOf allL).size := Nat.blt_eq.mp h2
  rw [baOf_size] at h2
  have hi15 : i < 15 := h2
  have hget : allL[i]? = some (letter i) := allL_get ⟨i, hi15⟩
  have hd := dec_baOf allL_okA hget
  have hb0 := (allL_okA _ (List.mem_of_getElem? hget)).1
  have hd1 : ((Utf8.decode (baOf allL) i).1 : Int) = letter i := by rw [hd]; show (((letter i).toNat : Nat) : Int) = letter i; omega
  have hd2 : (Utf8.decode (baOf allL) i).2 = 1 := by rw [hd]
  conv => whnf
  rw [hd1]
  refine ⟨fieldsL m.kind, rfl, (fieldsL_ok _).1, (fieldsL_ok _).2, ?_⟩
  have hH : ∀ x y z : HO, [x, y, z, HO.iter (baOf allL) (i + (Utf8.decode (baOf allL) i).2)] = [x, y, z, HO.iter (baOf allL) (i + 1)] := fun x y z => by rw [hd2]
  conv => whnf
  split
  · rename_i h3
    have h3 : hasF m.kind i = true := h3
    have hs : encS m (i + 1) = wField m i (encS m i) := by show cond (hasF m.kind i) _ _ = _; rw [h3]; rfl
    conv => whnf
    refine ⟨m, i, rfl, hm, hi15, rfl, _, rfl, by rw [← hs]; exact hsz (i + 1) (by omega), ?_⟩
    conv => whnf
    refine R_at ?_ ?_ (hR (i + 1) ⟨by omega, by show (empAll m i && (hasF m.kind i || emptyF m i)) = true; rw [hemp, h3]; rfl⟩ (by omega))
    · kernel_rfl
    · rw [hs]
      refine Eq.trans ?_ (hH _ _ _)
      kernel_rfl
  · rename_i h3
    have h3 : hasF m.kind i = false := h3
    have hs : encS m (i + 1) = encS m i := by show cond (hasF m.kind i) _ _ = _; rw [h3]; rfl
    conv => whnf
    refine ⟨m, i, rfl, hm, hi15, rfl, hc, ?_⟩
    cases he : emptyF m i with
    | false =>
      have := bad 51 (by unfold encE; rw [if_neg h1, if_pos (empAll_false m 15 i hi15 h3 he)]) (by decide)
      conv => whnf
      refine Eq.mp ?_ this
      kernel_rfl
    | true =>
      conv => whnf
      refine R_at ?_ ?_ (hR (i + 1) ⟨by omega, by show (empAll m i && (hasF m.kind i || emptyF m i)) = true; rw [hemp, h3, he]; rfl⟩ (by omega))
      · kernel_rfl
      · rw [hs]
        refine Eq.trans ?_ (hH _ _ _)
        kernel_rfl

set_option maxRecDepth 100000 in
theorem s16 {T : Tab} (hT : TGood Tryz.prog T) : SGood Tryz.prog 15 (freshT g16) := freshT_good g16_det fun args Q h => by
  unfold g16 at h
  split at h
  · obtain ⟨m, rfl, hm, hc, hQ⟩ := h
    have h1 := ext_good hT (s45 hT)
    have h2 := ext_good h1 (s46 h1)
    have h3 := ext_good h2 (s47 h2)
    have h4 := ext_good h3 (s48 h3)
    have h5 := ext_good h4 (s49 h4)
    have h6 := ext_good h5 (s50 h5)
    exact body_fresh (ext_good h6 (s51 h6)) mixedT Tryz.func15 (entersOf Tryz.func15 (by kernel_rfl) rfl) 16 (f16_ok m hm hc T Q hQ 16 (by omega))
  · exact h.elim
end Go.Abs

/-
An abstract machine over values as trees: a callee that works on objects of the caller's, by its exact contracts.
-/
namespace Go.Abs
open Go
variable {P : Program}

def frzRest (H : Heap) : List AV → List AV × Heap
  | [] => ([], H)
  | x :: r => (x :: (frzAs H r).1, (frzAs H r).2)
abbrev ShRel := List AV → Heap → AOut → Heap → Prop
/-- The callee gets the objects `ids` (the arguments behind the first are frozen) and leaves what R says. -/
def shapeT (R : ShRel) : Spec := fun args H Q => ∃ (ids : List Nat) (o0 : AOut) (Hs : Heap) (o1 : AOut) (H1 : Heap),
  (decide ids.Nodup = true ∧ ids.all (fun x => decide (x < (frzRest H args).2.length)) = true ∧ R (renL (ids.idxOf? ·) (frzRest H args).1) (subH (frzRest H args).2 ids) o0 Hs ∧
    outR (backN (frzRest H args).2.length ids Hs.length) o0 = o1 ∧ mergeH (frzRest H args).2 ids Hs = H1) ∧ Q o1 H1
theorem frzRest_ok {f : FuncId} {args : List AV} {H : Heap} {Q : AOut → Heap → Prop} (h : FOK P f (frzRest H args).1 (frzRest H args).2 Q) : FOK P f args H Q := by
  cases args with
  | nil => exact h
  | cons x r =>
    have := frz_rest (ys := []) (x := x) (args := r) (H := H) (Q := Q) (f := f) (P := P) (by rw [List.append_nil]; exact h)
    rwa [List.append_nil] at this
theorem shapeT_good {f : FuncId} {R : ShRel} (h : ∀ args H o Hs, R args H o Hs → FOK P f args H fun x y => x = o ∧ y = Hs) : SGood P f (shapeT R) where
  ok := fun args H Q hg => by
    obtain ⟨ids, o0, Hs, o1, H1, ⟨h1, h2, h3, h4, h5⟩, h6⟩ := hg
    refine frzRest_ok (sub_call (ids := ids) (of_decide_eq_true h1) (fun b hb => of_decide_eq_true (List.all_eq_true.1 h2 b hb)) ?_)
    refine (h _ _ _ _ h3).imp fun o Hs' ⟨e1, e2⟩ => ?_
    subst e1; subst e2
    rw [h4, h5]
    exact h6
  ang := fun args H K ⟨ids, o0, Hs, o1, H1, hh, h6⟩ => ⟨o1, H1, ⟨ids, o0, Hs, o1, H1, hh, rfl, rfl⟩, h6⟩
  mono := fun args H K K' hk ⟨ids, o0, Hs, o1, H1, hh, h6⟩ => ⟨ids, o0, Hs, o1, H1, hh, hk _ _ h6⟩

end Go.Abs

/-
SHA-256 as plain functions of numbers; catenaryref02.turn and word are what they come to.
-/
namespace Go.Abs
open Go Go.Proofs

def rotr (x : Int) (n : Nat) : Int := bits .or .u32 (x.fdiv (2 ^ n)) (IntKind.u32.wrap (x * 2 ^ (32 - n)))
def g152 : GSpec := fun args K => match args with
  | [.int .u32 x, .int .i64 n] => (0 < n ∧ n < 32) ∧ K (.ret (.int .u32 (rotr x n.toNat)))
  | _ => False
theorem g152_det (args : List AV) : Det (g152 args) := by
  unfold g152
  repeat' (first | exact Det.no | exact Det.at _ | refine Det.and ?_ | refine Det.ex fun _ => ?_ | refine Det.cond ?_ ?_ | split)
theorem g152_flat (args : List AV) (o : AOut) (h : g152 args (· = o)) : flatO o = true := by
  unfold g152 at h
  split at h
  · obtain ⟨_, rfl⟩ := h; rfl
  · exact h.elim
theorem wrap64 (n : Int) (h0 : 0 ≤ n) (h1 : n < 18446744073709551616) : IntKind.u64.wrap n = n := by
  rw [show IntKind.u64.wrap n = n % 18446744073709551616 by simp [IntKind.wrap, IntKind.bits, IntKind.signed]]
  omega

set_option maxRecDepth 100000 in
set_option maxHeartbeats 4000000 in
theorem f152_ok (x n : Int) (h0 : 0 < n) (h1 : n < 32) (T : Tab) (Q : AOut → Prop) (hQ : Q (.ret (.int .u32 (rotr x n.toNat)))) (N : Nat) :
    abody Tryz.prog T 0 N Tryz.f178 [.int .u32 x, .int .i64 n] [] (fun out Hs => Q (frzO Hs out)) := by
  have e1 : IntKind.u64.wrap n = n := wrap64 n (by omega) (by omega)
  have e2 : IntKind.u64.wrap (IntKind.i64.wrap (32 - n)) = 32 - n := by rw [IntWalk.i64_in _ (by omega), wrap64 _ (by omega) (by omega)]
  conv => whnf
  rw [e1, decide_eq_true (show 0 ≤ n by omega)]
  conv => whnf
  rw [e2, decide_eq_true (show 0 ≤ 32 - n by omega)]
  conv => whnf
  have hQ' : Q (.ret (.int .u32 (bits .or .u32 (x.fdiv (2 ^ min n.toNat IntKind.u32.bits)) (IntKind.u32.wrap (x * 2 ^ min (32 - n).toNat IntKind.u32.bits))))) := by
    rw [show min n.toNat IntKind.u32.bits = n.toNat by show min n.toNat 32 = _; omega, show min (32 - n).toNat IntKind.u32.bits = 32 - n.toNat by show min _ 32 = _; omega]
    exact hQ
  refine Eq.mp ?_ hQ'
  kernel_rfl

set_option maxRecDepth 100000 in
theorem s152 {T : Tab} (hT : TGood Tryz.prog T) : SGood Tryz.prog 178 (flatT g152) := flatT_good g152_det g152_flat fun args Q h => by
  unfold g152 at h
  split at h
  · obtain ⟨h1, hQ⟩ := h
    exact body_pure hT mixedT Tryz.func178 (entersOf Tryz.func178 (by kernel_rfl) rfl) 0 (f152_ok _ _ h1.1 h1.2 T Q hQ 0)
  · exact h.elim

/-- The word of four bytes. -/
def word4 (a b c d : Int) : Int := ((a * 256 + b) * 256 + c) * 256 + d
def g156 : GSpec := fun args K => match args with
  | [.slice es] => ∃ (a b c d : Int) (r : List Int), es = bsA (a :: b :: c :: d :: r) ∧ ((0 ≤ a ∧ a < 256) ∧ (0 ≤ b ∧ b < 256) ∧ (0 ≤ c ∧ c < 256) ∧ (0 ≤ d ∧ d < 256)) ∧ K (.ret (.int .u32 (word4 a b c d)))
  | _ => False
theorem g156_det (args : List AV) : Det (g156 args) := by
  unfold g156
  repeat' (first | exact Det.no | exact Det.at _ | refine Det.and ?_ | refine Det.ex fun _ => ?_ | refine Det.cond ?_ ?_ | split)
theorem g156_flat (args : List AV) (o : AOut) (h : g156 args (· = o)) : flatO o = true := by
  unfold g156 at h
  split at h
  · obtain ⟨_, _, _, _, _, _, _, rfl⟩ := h; rfl
  · exact h.elim
theorem wrap32 (n : Int) : IntKind.u32.wrap n = n % 4294967296 := by simp [IntKind.wrap, IntKind.bits, IntKind.signed]

set_option maxRecDepth 100000 in
set_option maxHeartbeats 4000000 in
theorem f156_ok (a b c d : Int) (r : List Int) (ha : 0 ≤ a ∧ a < 256) (hb : 0 ≤ b ∧ b < 256) (hc : 0 ≤ c ∧ c < 256) (hd : 0 ≤ d ∧ d < 256) (T : Tab) (Q : AOut → Prop) (hQ : Q (.ret (.int .u32 (word4 a b c d)))) (N : Nat) :
    abody Tryz.prog T 0 (N + 5) Tryz.f180 [.slice (bsA (a :: b :: c :: d :: r))] [] (fun out Hs => Q (frzO Hs out)) := by
  have hl : (0 : Int) ≤ ((bsA r).length : Int) := by omega
  have h4 : ((bsA (a :: b :: c :: d :: r)).length : Int) = r.length + 4 := by simp; omega
  conv => whnf
  refine ⟨by decide, Int.lt_of_lt_of_le (b := 4) (by decide) (by rw [h4]; omega), _, rfl, rfl, ?_⟩
  conv => whnf
  refine ⟨by decide, Int.lt_of_lt_of_le (b := 4) (by decide) (by rw [h4]; omega), _, rfl, rfl, ?_⟩
  conv => whnf
  refine ⟨by decide, Int.lt_of_lt_of_le (b := 4) (by decide) (by rw [h4]; omega), _, rfl, rfl, ?_⟩
  conv => whnf
  refine ⟨by decide, Int.lt_of_lt_of_le (b := 4) (by decide) (by rw [h4]; omega), _, rfl, rfl, ?_⟩
  conv => whnf
  have e : word4 a b c d = IntKind.u32.wrap (IntKind.u32.wrap (IntKind.u32.wrap (IntKind.u32.wrap (IntKind.u32.wrap (IntKind.u32.wrap (IntKind.u32.wrap (IntKind.u32.wrap (0 * 256) + IntKind.u32.wrap a) * 256) + IntKind.u32.wrap b) * 256) + IntKind.u32.wrap c) * 256) + IntKind.u32.wrap d) := by
    simp only [wrap32, word4]
    omega
  rw [e] at hQ
  refine Eq.mp ?_ hQ
  kernel_rfl

set_option maxRecDepth 100000 in
theorem s156 {T : Tab} (hT : TGood Tryz.prog T) : SGood Tryz.prog 180 (flatT g156) := flatT_good g156_det g156_flat fun args Q h => by
  unfold g156 at h
  split at h
  · obtain ⟨a, b, c, d, r, rfl, ⟨ha, hb, hc, hd⟩, hQ⟩ := h
    exact body_pure hT mixedT Tryz.func180 (entersOf Tryz.func180 (by kernel_rfl) rfl) 5 (f156_ok a b c d r ha hb hc hd T Q hQ 0)
  · exact h.elim
end Go.Abs

/-
catenaryref02.K, schedule are what they come to.
-/
namespace Go.Abs
open Go Go.Proofs

@[reducible] def a64 (g : Nat → Int) : List AV := [.int .u32 (g 0), .int .u32 (g 1), .int .u32 (g 2), .int .u32 (g 3), .int .u32 (g 4), .int .u32 (g 5), .int .u32 (g 6), .int .u32 (g 7), .int .u32 (g 8), .int .u32 (g 9), .int .u32 (g 10), .int .u32 (g 11), .int .u32 (g 12), .int .u32 (g 13), .int .u32 (g 14), .int .u32 (g 15), .int .u32 (g 16), .int .u32 (g 17), .int .u32 (g 18), .int .u32 (g 19), .int .u32 (g 20), .int .u32 (g 21), .int .u32 (g 22), .int .u32 (g 23), .int .u32 (g 24), .int .u32 (g 25), .int .u32 (g 26), .int .u32 (g 27), .int .u32 (g 28), .int .u32 (g 29), .int .u32 (g 30), .int .u32 (g 31), .int .u32 (g 32), .int .u32 (g 33), .int .u32 (g 34), .int .u32 (g 35), .int .u32 (g 36), .int .u32 (g 37), .int .u32 (g 38), .int .u32 (g 39), .int .u32 (g 40), .int .u32 (g 41), .int .u32 (g 42), .int .u32 (g 43), .int .u32 (g 44), .int .u32 (g 45), .int .u32 (g 46), .int .u32 (g 47), .int .u32 (g 48), .int .u32 (g 49), .int .u32 (g 50), .int .u32 (g 51), .int .u32 (g 52), .int .u32 (g 53), .int .u32 (g 54), .int .u32 (g 55), .int .u32 (g 56), .int .u32 (g 57), .int .u32 (g 58), .int .u32 (g 59), .int .u32 (g 60), .int .u32 (g 61), .int .u32 (g 62), .int .u32 (g 63)]
theorem a64_range (g : Nat → Int) : a64 g = (List.range 64).map fun j => .int .u32 (g j) := rfl
theorem a64_drop (g : Nat → Int) {t : Nat} (h : t < 64) : List.drop t (a64 g) = .int .u32 (g t) :: List.drop (t + 1) (a64 g) := by
  have hl : t < (a64 g).length := h
  rw [List.drop_eq_getElem_cons hl]
  congr 1
  simp only [a64_range, List.getElem_map, List.getElem_range]
theorem a64_get (g : Nat → Int) {t : Nat} (h : t < 64) : (a64 g)[0 + ((t : Nat) : Int).toNat * 1]? = some (.int .u32 (g t)) := by
  rw [show 0 + ((t : Nat) : Int).toNat * 1 = t by omega, a64_range, List.getElem?_map, List.getElem?_range h]
  rfl
theorem a64_over (g : Nat → Int) {t : Nat} (h : t < 64) (v : Int) : overAt (a64 g) t [.int .u32 v] = a64 fun j => if j = t then v else g j := by
  apply List.ext_getElem?
  intro i
  rw [overAt_get _ _ _ _ (by show t + 1 ≤ 64; omega)]
  simp only [a64_range, List.getElem?_map]
  by_cases hi : i = t
  · subst hi
    rw [if_pos (by simp), Nat.sub_self, List.getElem?_range h]
    simp
  · rw [if_neg (by simp; omega)]
    rcases Nat.lt_or_ge i 64 with h2 | h2
    · rw [List.getElem?_range h2]
      simp [hi]
    · rw [List.getElem?_eq_none (by simpa using h2)]
      rfl

def sg0 (x : Int) : Int := bits .xor .u32 (bits .xor .u32 (rotr x 7) (rotr x 18)) (x.fdiv 8)
def sg1 (x : Int) : Int := bits .xor .u32 (bits .xor .u32 (rotr x 17) (rotr x 19)) (x.fdiv 1024)
/-- A word of the schedule, out of those ahead of it. -/
def wFirst (l : List Int) (t : Nat) : Int := word4 (l.getD (4 * t) 0) (l.getD (4 * t + 1) 0) (l.getD (4 * t + 2) 0) (l.getD (4 * t + 3) 0)
def wLater (g : Nat → Int) (t : Nat) : Int := IntKind.u32.wrap (IntKind.u32.wrap (IntKind.u32.wrap (sg1 (g (t - 2)) + g (t - 7)) + sg0 (g (t - 15))) + g (t - 16))
/-- The words behind n steps. -/
def wordsN (l : List Int) : Nat → Nat → Int
  | 0 => fun _ => 0
  | n + 1 => fun j => if j = n then (if n < 16 then wFirst l n else wLater (wordsN l n) n) else wordsN l n j

theorem force_over {cs xs : List AV} {o : Nat} {K : List AV → Prop} (cs' : List AV) (h : overAt cs o xs = cs') (hk : forceL cs' K) : forceL (overAt cs o xs) K := by rw [h]; exact hk
theorem dec_true {p : Prop} {f : ¬p → Prop} {t : p → Prop} (d : Decidable p) (hp : p) (h : t hp) : @Decidable.rec p (fun _ => Prop) f t d := by
  cases d with
  | isTrue _ => exact h
  | isFalse hn => exact absurd hp hn
theorem drop_getD {l : List Int} {i : Nat} (h : i < l.length) : l.drop i = l.getD i 0 :: l.drop (i + 1) := by
  rw [List.drop_eq_getElem_cons h, List.getD_eq_getElem?_getD, List.getElem?_eq_getElem h]
  rfl
theorem okB_getD {l : List Int} (h : okB l) (i : Nat) : 0 ≤ l.getD i 0 ∧ l.getD i 0 < 256 := by
  rw [List.getD_eq_getElem?_getD]
  cases hi : l[i]? with
  | none => exact ⟨by simp, by simp⟩
  | some x => exact h x (List.mem_of_getElem? hi)
theorem cut4 {l : List Int} {t : Nat} (h : 4 * t + 4 ≤ l.length) : cutList (bsA l) (Option.map Int.toNat (some (4 * (t : Int)))) (Option.map Int.toNat none) =
    bsA (l.getD (4 * t) 0 :: l.getD (4 * t + 1) 0 :: l.getD (4 * t + 2) 0 :: l.getD (4 * t + 3) 0 :: l.drop (4 * t + 4)) := by
  show (bsA l).drop (4 * (t : Int)).toNat = _
  rw [show (4 * (t : Int)).toNat = 4 * t by omega, show (bsA l).drop (4 * t) = bsA (l.drop (4 * t)) by simp [bsA, List.map_drop], drop_getD (by omega), drop_getD (i := 4 * t + 1) (by omega), drop_getD (i := 4 * t + 1 + 1) (by omega), drop_getD (i := 4 * t + 1 + 1 + 1) (by omega)]

set_option maxRecDepth 100000 in
set_option maxHeartbeats 8000000 in
theorem f150_ok (l : List Int) (hb : okB l) (h64 : 64 ≤ l.length) (hll : l.length ≤ 1099511627776) (T : Tab) (Q : AOut → Prop) (hQ : Q (.ret (.agg (a64 (wordsN l 64))))) (N : Nat) (hN : 64 < N) :
    abody Tryz.prog (ext (ext T 178 (flatT g152)) 180 (flatT g156)) 0 N Tryz.f176 [.slice (bsA l)] [] (fun out Hs => Q (frzO Hs out)) := by
  have hl : (bsA l).length = l.length := bsA_length l
  conv => whnf
  refine aloop_at ?_ ?_ (aloop_inv (σ := Nat) (fun t => ((sp 0 74 [(0, .slice (bsA l)), (2, .ptr 0 0), (3, .ptr 1 0), (4, .int .i64 (t : Nat))]), [.var (a64 fun _ => 0), .var (a64 (wordsN l t))]))
    (fun t => t ≤ 16) (fun t => 16 - t) ?_ N 0 (Nat.zero_le _) (by omega))
  · kernel_rfl
  · kernel_rfl
  rintro t ht R hR
  conv => whnf
  split
  · rename_i h2; have h2 : (t : Int) < 16 := of_decide_eq_true h2
    have h3 : t < 16 := by omega
    have w1 : IntKind.i64.wrap (4 * (t : Int)) = 4 * t := by rw [IntWalk.i64_in _ (by omega)]
    have hi1 : IntKind.i64.wrap ((t : Int) + 1) = ((t + 1 : Nat) : Int) := by rw [IntWalk.i64_in _ (by omega)]; omega
    conv => whnf
    refine ⟨fun el hel => bsA_el hel, ?_, ?_⟩
    · rw [w1, hl]
      exact ⟨by omega, by omega⟩
    conv => whnf
    rw [w1]
    refine ⟨_, _, _, _, _, cut4 (by omega), ⟨okB_getD hb _, okB_getD hb _, okB_getD hb _, okB_getD hb _⟩, ?_⟩
    conv => whnf
    refine ⟨by omega, by show (t : Int) < 64; omega, ?_⟩
    conv => whnf
    refine dec_true _ ⟨by kernel_rfl, by kernel_rfl, ?_⟩ ?_
    · show 0 + (t : Int).toNat * 1 + 1 ≤ 64
      omega
    conv => whnf
    refine force_over (a64 (wordsN l (t + 1))) ?_ ?_
    · refine Eq.trans (b := overAt (a64 (wordsN l t)) (0 + (t : Int).toNat * 1) [.int .u32 (wFirst l t)]) (by kernel_rfl) ?_
      rw [show 0 + (t : Int).toNat * 1 = t by omega, a64_over _ (by omega)]
      congr 1
      funext j
      simp only [wordsN, if_pos h3]
    conv => whnf
    refine R_at ?_ ?_ (hR (t + 1) (by omega) (by omega))
    · rw [← hi1]; kernel_rfl
    · kernel_rfl
  rename_i h2; have h2 : ¬ (t : Int) < 16 := of_decide_eq_false h2
  obtain rfl : t = 16 := by omega
  clear h2 ht
  conv => whnf
  clear hR R
  refine aloop_at ?_ ?_ (aloop_inv (σ := Nat) (fun t => ((sp 0 74 [(2, .ptr 0 0), (3, .ptr 1 0), (5, .int .i64 (t : Nat))]), [.var (a64 fun _ => 0), .var (a64 (wordsN l t))]))
    (fun t => 16 ≤ t ∧ t ≤ 64) (fun t => 64 - t) ?_ N 16 ⟨Nat.le_refl _, by omega⟩ (by omega))
  · kernel_rfl
  · kernel_rfl
  rintro t ⟨ht, ht2⟩ R hR
  conv => whnf
  split
  rotate_left
  · rename_i h2; have h2 : ¬ (t : Int) < 64 := of_decide_eq_false h2
    obtain rfl : t = 64 := by omega
    conv => whnf
    refine Eq.mp ?_ hQ
    kernel_rfl
  rename_i h2; have h2 : (t : Int) < 64 := of_decide_eq_true h2
  have hi1 : IntKind.i64.wrap ((t : Int) + 1) = ((t + 1 : Nat) : Int) := by rw [IntWalk.i64_in _ (by omega)]; omega
  have w15 : IntKind.i64.wrap ((t : Int) - 15) = ((t - 15 : Nat) : Int) := by rw [IntWalk.i64_in _ (by omega)]; omega
  have w2 : IntKind.i64.wrap ((t : Int) - 2) = ((t - 2 : Nat) : Int) := by rw [IntWalk.i64_in _ (by omega)]; omega
  have w7 : IntKind.i64.wrap ((t : Int) - 7) = ((t - 7 : Nat) : Int) := by rw [IntWalk.i64_in _ (by omega)]; omega
  have w16 : IntKind.i64.wrap ((t : Int) - 16) = ((t - 16 : Nat) : Int) := by rw [IntWalk.i64_in _ (by omega)]; omega
  conv => whnf
  refine ⟨[], ?_⟩
  conv => whnf
  rw [w15]
  refine ⟨by omega, by show ((t - 15 : Nat) : Int) < 64; omega, ?_⟩
  conv => whnf
  refine nth_at (c := .int .u32 (wordsN l t (t - 15))) ?_ ?_
  · exact a64_get _ (by omega)
  conv => whnf
  refine ⟨⟨by decide, by decide⟩, ?_⟩
  conv => whnf
  refine ⟨rfl, ?_⟩
  conv => whnf
  rw [w15]
  refine ⟨by omega, by show ((t - 15 : Nat) : Int) < 64; omega, ?_⟩
  conv => whnf
  refine nth_at (c := .int .u32 (wordsN l t (t - 15))) ?_ ?_
  · exact a64_get _ (by omega)
  conv => whnf
  refine ⟨⟨by decide, by decide⟩, ?_⟩
  conv => whnf
  refine ⟨rfl, ?_⟩
  conv => whnf
  rw [w15]
  refine ⟨by omega, by show ((t - 15 : Nat) : Int) < 64; omega, ?_⟩
  conv => whnf
  refine nth_at (c := .int .u32 (wordsN l t (t - 15))) ?_ ?_
  · exact a64_get _ (by omega)
  conv => whnf
  refine ⟨[], ?_⟩
  conv => whnf
  rw [w2]
  refine ⟨by omega, by show ((t - 2 : Nat) : Int) < 64; omega, ?_⟩
  conv => whnf
  refine nth_at (c := .int .u32 (wordsN l t (t - 2))) ?_ ?_
  · exact a64_get _ (by omega)
  conv => whnf
  refine ⟨⟨by decide, by decide⟩, ?_⟩
  conv => whnf
  refine ⟨rfl, ?_⟩
  conv => whnf
  rw [w2]
  refine ⟨by omega, by show ((t - 2 : Nat) : Int) < 64; omega, ?_⟩
  conv => whnf
  refine nth_at (c := .int .u32 (wordsN l t (t - 2))) ?_ ?_
  · exact a64_get _ (by omega)
  conv => whnf
  refine ⟨⟨by decide, by decide⟩, ?_⟩
  conv => whnf
  refine ⟨rfl, ?_⟩
  conv => whnf
  rw [w2]
  refine ⟨by omega, by show ((t - 2 : Nat) : Int) < 64; omega, ?_⟩
  conv => whnf
  refine nth_at (c := .int .u32 (wordsN l t (t - 2))) ?_ ?_
  · exact a64_get _ (by omega)
  conv => whnf
  refine ⟨[15], ?_⟩
  conv => whnf
  rw [w7]
  refine ⟨by omega, by show ((t - 7 : Nat) : Int) < 64; omega, ?_⟩
  conv => whnf
  refine nth_at (c := .int .u32 (wordsN l t (t - 7))) ?_ ?_
  · exact a64_get _ (by omega)
  conv => whnf
  rw [w16]
  refine ⟨by omega, by show ((t - 16 : Nat) : Int) < 64; omega, ?_⟩
  conv => whnf
  refine nth_at (c := .int .u32 (wordsN l t (t - 16))) ?_ ?_
  · exact a64_get _ (by omega)
  conv => whnf
  refine ⟨by omega, by show (t : Int) < 64; omega, ?_⟩
  conv => whnf
  refine dec_true _ ⟨by kernel_rfl, by kernel_rfl, ?_⟩ ?_
  · show 0 + (t : Int).toNat * 1 + 1 ≤ 64
    omega
  conv => whnf
  refine force_over (a64 (wordsN l (t + 1))) ?_ ?_
  · refine Eq.trans (b := overAt (a64 (wordsN l t)) (0 + (t : Int).toNat * 1) [.int .u32 (wLater (wordsN l t) t)]) (by kernel_rfl) ?_
    rw [show 0 + (t : Int).toNat * 1 = t by omega, a64_over _ (by omega)]
    congr 1
    funext j
    simp only [wordsN, if_neg (show ¬ t < 16 by omega)]
  conv => whnf
  refine R_at ?_ ?_ (hR (t + 1) ⟨by omega, by omega⟩ (by omega))
  · rw [← hi1]; kernel_rfl
  · kernel_rfl

def g150 : GSpec := fun args K => match args with
  | [.slice es] => ∃ l : List Int, es = bsA l ∧ okB l ∧ (64 ≤ l.length ∧ l.length ≤ 1099511627776) ∧ K (.ret (.agg (a64 (wordsN l 64))))
  | _ => False
theorem g150_det (args : List AV) : Det (g150 args) := by
  unfold g150
  repeat' (first | exact Det.no | exact Det.at _ | refine Det.and ?_ | refine Det.ex fun _ => ?_ | refine Det.cond ?_ ?_ | split)
theorem g150_flat (args : List AV) (o : AOut) (h : g150 args (· = o)) : flatO o = true := by
  unfold g150 at h
  split at h
  · obtain ⟨_, _, _, _, rfl⟩ := h; rfl
  · exact h.elim
set_option maxRecDepth 100000 in
theorem s150 {T : Tab} (hT : TGood Tryz.prog T) : SGood Tryz.prog 176 (flatT g150) := flatT_good g150_det g150_flat fun args Q h => by
  unfold g150 at h
  split at h
  · obtain ⟨l, rfl, hb, h1, hQ⟩ := h
    have t1 := ext_good hT (s152 hT)
    exact body_pure (ext_good t1 (s156 t1)) mixedT Tryz.func176 (entersOf Tryz.func176 (by kernel_rfl) rfl) 65 (f150_ok l hb h1.1 h1.2 T Q hQ 65 (by omega))
  · exact h.elim

def kL : List Int := [1116352408, 1899447441, 3049323471, 3921009573, 961987163, 1508970993, 2453635748, 2870763221, 3624381080, 310598401, 607225278, 1426881987, 1925078388, 2162078206, 2614888103, 3248222580, 3835390401, 4022224774, 264347078, 604807628, 770255983, 1249150122, 1555081692, 1996064986, 2554220882, 2821834349, 2952996808, 3210313671, 3336571891, 3584528711, 113926993, 338241895, 666307205, 773529912, 1294757372, 1396182291, 1695183700, 1986661051, 2177026350, 2456956037, 2730485921, 2820302411, 3259730800, 3345764771, 3516065817, 3600352804, 4094571909, 275423344, 430227734, 506948616, 659060556, 883997877, 958139571, 1322822218, 1537002063, 1747873779, 1955562222, 2024104815, 2227730452, 2361852424, 2428436474, 2756734187, 3204031479, 3329325298]
def kF (j : Nat) : Int := kL.getD j 0
def g151 : GSpec := fun args K => match args with
  | [] => K (.ret (.agg (a64 kF)))
  | _ => False
theorem g151_det (args : List AV) : Det (g151 args) := by
  unfold g151
  repeat' (first | exact Det.no | exact Det.at _ | refine Det.and ?_ | refine Det.ex fun _ => ?_ | refine Det.cond ?_ ?_ | split)
theorem g151_flat (args : List AV) (o : AOut) (h : g151 args (· = o)) : flatO o = true := by
  unfold g151 at h
  split at h
  · cases h; rfl
  · exact h.elim
set_option maxRecDepth 100000 in
set_option maxHeartbeats 4000000 in
theorem f151_ok (T : Tab) (Q : AOut → Prop) (hQ : Q (.ret (.agg (a64 kF)))) (N : Nat) : abody Tryz.prog T 0 N Tryz.f177 [] [] (fun out Hs => Q (frzO Hs out)) := by
  conv => whnf
  refine Eq.mp ?_ hQ
  kernel_rfl
set_option maxRecDepth 100000 in
theorem s151 {T : Tab} (hT : TGood Tryz.prog T) : SGood Tryz.prog 177 (flatT g151) := flatT_good g151_det g151_flat fun args Q h => by
  unfold g151 at h
  split at h
  · exact body_pure hT mixedT Tryz.func177 (entersOf Tryz.func177 (by kernel_rfl) rfl) 0 (f151_ok T Q h 0)
  · exact h.elim
end Go.Abs

/-
catenaryref02.Block is what it comes to.
-/
namespace Go.Abs
open Go Go.Proofs

structure V8 where
  a : Int
  b : Int
  c : Int
  d : Int
  e : Int
  f : Int
  g : Int
  h : Int
def c8 (v : V8) : List AV := [.int .u32 v.a, .int .u32 v.b, .int .u32 v.c, .int .u32 v.d, .int .u32 v.e, .int .u32 v.f, .int .u32 v.g, .int .u32 v.h]
def bS1 (e : Int) : Int := bits .xor .u32 (bits .xor .u32 (rotr e 6) (rotr e 11)) (rotr e 25)
def bS0 (a : Int) : Int := bits .xor .u32 (bits .xor .u32 (rotr a 2) (rotr a 13)) (rotr a 22)
def chR (e f g : Int) : Int := bits .or .u32 (bits .and .u32 e f) (bits .and .u32 (bits .xor .u32 e 4294967295) g)
def majR (a b c : Int) : Int := bits .or .u32 (bits .or .u32 (bits .and .u32 a b) (bits .and .u32 a c)) (bits .and .u32 b c)
def w32 (x : Int) : Int := IntKind.u32.wrap x
def rT1 (k w : Int) (v : V8) : Int := w32 (w32 (w32 (w32 (v.h + bS1 v.e) + chR v.e v.f v.g) + k) + w)
def rT2 (v : V8) : Int := w32 (bS0 v.a + majR v.a v.b v.c)
def rnd (k w : Int) (v : V8) : V8 := ⟨w32 (rT1 k w v + rT2 v), v.a, v.b, v.c, w32 (v.d + rT1 k w v), v.e, v.f, v.g⟩
def rounds (s : V8) (w : Nat → Int) : Nat → V8
  | 0 => s
  | t + 1 => rnd (kF t) (w t) (rounds s w t)
def add8 (s v : V8) : V8 := ⟨w32 (s.a + v.a), w32 (s.b + v.b), w32 (s.c + v.c), w32 (s.d + v.d), w32 (s.e + v.e), w32 (s.f + v.f), w32 (s.g + v.g), w32 (s.h + v.h)⟩
def blk (s : V8) (l : List Int) : V8 := add8 s (rounds s (wordsN l 64) 64)
def c8s (s v : V8) (i : Nat) : List AV := [.int .u32 (cond (Nat.blt 0 i) (w32 (s.a + v.a)) s.a), .int .u32 (cond (Nat.blt 1 i) (w32 (s.b + v.b)) s.b), .int .u32 (cond (Nat.blt 2 i) (w32 (s.c + v.c)) s.c), .int .u32 (cond (Nat.blt 3 i) (w32 (s.d + v.d)) s.d), .int .u32 (cond (Nat.blt 4 i) (w32 (s.e + v.e)) s.e), .int .u32 (cond (Nat.blt 5 i) (w32 (s.f + v.f)) s.f), .int .u32 (cond (Nat.blt 6 i) (w32 (s.g + v.g)) s.g), .int .u32 (cond (Nat.blt 7 i) (w32 (s.h + v.h)) s.h)]
def z8 : V8 := ⟨0, 0, 0, 0, 0, 0, 0, 0⟩

def g143 : GSpec := fun args K => match args with
  | [.agg cs, .slice es] => ∃ (s : V8) (l : List Int), cs = c8 s ∧ es = bsA l ∧ okB l ∧ (64 ≤ l.length ∧ l.length ≤ 1099511627776) ∧ K (.ret (.agg (c8 (blk s l))))
  | _ => False
theorem g143_det (args : List AV) : Det (g143 args) := by
  unfold g143
  repeat' (first | exact Det.no | exact Det.at _ | refine Det.and ?_ | refine Det.ex fun _ => ?_ | refine Det.cond ?_ ?_ | split)
theorem g143_flat (args : List AV) (o : AOut) (h : g143 args (· = o)) : flatO o = true := by
  unfold g143 at h
  split at h
  · obtain ⟨_, _, _, _, _, _, rfl⟩ := h; rfl
  · exact h.elim

set_option maxRecDepth 100000 in
set_option maxHeartbeats 16000000 in
theorem f143_ok (s : V8) (l : List Int) (hb : okB l) (h64 : 64 ≤ l.length ∧ l.length ≤ 1099511627776) (T : Tab) (Q : AOut → Prop) (hQ : Q (.ret (.agg (c8 (blk s l))))) (N : Nat) (hN : 64 < N) :
    abody Tryz.prog (ext (ext (ext T 176 (flatT g150)) 177 (flatT g151)) 178 (flatT g152)) 0 N Tryz.f172 [.agg (c8 s), .slice (bsA l)] [] (fun out Hs => Q (frzO Hs out)) := by
  conv => whnf
  refine ⟨l, rfl, hb, h64, ?_⟩
  conv => whnf
  refine aloop_at ?_ ?_ (aloop_inv (σ := Nat) (fun t => ((sp 0 113 [(2, .ptr 0 0), (4, .ptr 1 0), (5, .ptr 2 0), (6, .ptr 3 0), (7, .ptr 4 0), (8, .int .i64 (t : Nat))]), [.var (c8 s), .var (c8 z8), .var (a64 (wordsN l 64)), .var (a64 kF), .var (c8 (rounds s (wordsN l 64) t))]))
    (fun t => t ≤ 64) (fun t => 64 - t) ?_ N 0 (Nat.zero_le _) (by omega))
  · kernel_rfl
  · kernel_rfl
  rintro t ht R hR
  conv => whnf
  split
  rotate_left
  · rename_i h2; have h2 : ¬ (t : Int) < 64 := of_decide_eq_false h2
    obtain rfl : t = 64 := by omega
    conv => whnf
    clear hR R
    unfold blk at hQ
    generalize rounds s (wordsN l 64) 64 = v at hQ ⊢
    refine aloop_at ?_ ?_ (aloop_inv (σ := Nat) (fun i => ((sp 0 113 [(2, .ptr 0 0), (4, .ptr 1 0), (7, .ptr 2 0), (17, .int .i64 (i : Nat))]), [.var (c8s s v i), .var (c8 z8), .var (c8 v)]))
      (fun i => i ≤ 8) (fun i => 8 - i) ?_ N 0 (Nat.zero_le _) (by omega))
    · kernel_rfl
    · kernel_rfl
    rintro i hi R hR
    have hcs : i = 0 ∨ i = 1 ∨ i = 2 ∨ i = 3 ∨ i = 4 ∨ i = 5 ∨ i = 6 ∨ i = 7 ∨ i = 8 := by omega
    rcases hcs with rfl | rfl | rfl | rfl | rfl | rfl | rfl | rfl | rfl
    · conv => whnf
      refine ⟨[8], ?_⟩
      conv => whnf
      refine ⟨by decide, by decide, ?_⟩
      conv => whnf
      refine ⟨by decide, by decide, ?_⟩
      conv => whnf
      refine ⟨by decide, by decide, ?_⟩
      conv => whnf
      refine R_at ?_ ?_ (hR 1 (by omega) (by omega))
      · kernel_rfl
      · kernel_rfl
    · conv => whnf
      refine ⟨[8], ?_⟩
      conv => whnf
      refine ⟨by decide, by decide, ?_⟩
      conv => whnf
      refine ⟨by decide, by decide, ?_⟩
      conv => whnf
      refine ⟨by decide, by decide, ?_⟩
      conv => whnf
      refine R_at ?_ ?_ (hR 2 (by omega) (by omega))
      · kernel_rfl
      · kernel_rfl
    · conv => whnf
      refine ⟨[8], ?_⟩
      conv => whnf
      refine ⟨by decide, by decide, ?_⟩
      conv => whnf
      refine ⟨by decide, by decide, ?_⟩
      conv => whnf
      refine ⟨by decide, by decide, ?_⟩
      conv => whnf
      refine R_at ?_ ?_ (hR 3 (by omega) (by omega))
      · kernel_rfl
      · kernel_rfl
    · conv => whnf
      refine ⟨[8], ?_⟩
      conv => whnf
      refine ⟨by decide, by decide, ?_⟩
      conv => whnf
      refine ⟨by decide, by decide, ?_⟩
      conv => whnf
      refine ⟨by decide, by decide, ?_⟩
      conv => whnf
      refine R_at ?_ ?_ (hR 4 (by omega) (by omega))
      · kernel_rfl
      · kernel_rfl
    · conv => whnf
      refine ⟨[8], ?_⟩
      conv => whnf
      refine ⟨by decide, by decide, ?_⟩
      conv => whnf
      refine ⟨by decide, by decide, ?_⟩
      conv => whnf
      refine ⟨by decide, by decide, ?_⟩
      conv => whnf
      refine R_at ?_ ?_ (hR 5 (by omega) (by omega))
      · kernel_rfl
      · kernel_rfl
    · conv => whnf
      refine ⟨[8], ?_⟩
      conv => whnf
      refine ⟨by decide, by decide, ?_⟩
      conv => whnf
      refine ⟨by decide, by decide, ?_⟩
      conv => whnf
      refine ⟨by decide, by decide, ?_⟩
      conv => whnf
      refine R_at ?_ ?_ (hR 6 (by omega) (by omega))
      · kernel_rfl
      · kernel_rfl
    · conv => whnf
      refine ⟨[8], ?_⟩
      conv => whnf
      refine ⟨by decide, by decide, ?_⟩
      conv => whnf
      refine ⟨by decide, by decide, ?_⟩
      conv => whnf
      refine ⟨by decide, by decide, ?_⟩
      conv => whnf
      refine R_at ?_ ?_ (hR 7 (by omega) (by omega))
      · kernel_rfl
      · kernel_rfl
    · conv => whnf
      refine ⟨[8], ?_⟩
      conv => whnf
      refine ⟨by decide, by decide, ?_⟩
      conv => whnf
      refine ⟨by decide, by decide, ?_⟩
      conv => whnf
      refine ⟨by decide, by decide, ?_⟩
      conv => whnf
      refine R_at ?_ ?_ (hR 8 (by omega) (by omega))
      · kernel_rfl
      · kernel_rfl
    · conv => whnf
      refine Eq.mp ?_ hQ
      kernel_rfl
  rename_i h2; have h2 : (t : Int) < 64 := of_decide_eq_true h2
  have hi1 : IntKind.i64.wrap ((t : Int) + 1) = ((t + 1 : Nat) : Int) := by rw [IntWalk.i64_in _ (by omega)]; omega
  conv => whnf
  refine ⟨[], ?_⟩
  conv => whnf
  refine ⟨by decide, by decide, ?_⟩
  conv => whnf
  refine ⟨by decide, by decide, ?_⟩
  conv => whnf
  refine ⟨by decide, by decide, ?_⟩
  conv => whnf
  refine ⟨by decide, by decide, ?_⟩
  conv => whnf
  refine ⟨by decide, by decide, ?_⟩
  conv => whnf
  refine ⟨by decide, by decide, ?_⟩
  conv => whnf
  refine ⟨[], ?_⟩
  conv => whnf
  refine ⟨by decide, by decide, ?_⟩
  conv => whnf
  refine ⟨⟨by decide, by decide⟩, ?_⟩
  conv => whnf
  refine ⟨rfl, ?_⟩
  conv => whnf
  refine ⟨⟨by decide, by decide⟩, ?_⟩
  conv => whnf
  refine ⟨rfl, ?_⟩
  conv => whnf
  refine ⟨⟨by decide, by decide⟩, ?_⟩
  conv => whnf
  refine ⟨rfl, ?_⟩
  conv => whnf
  refine ⟨by omega, by show (t : Int) < 64; omega, ?_⟩
  conv => whnf
  refine nth_at (c := .int .u32 (kF t)) ?_ ?_
  · exact a64_get _ (by omega)
  conv => whnf
  refine ⟨by omega, by show (t : Int) < 64; omega, ?_⟩
  conv => whnf
  refine nth_at (c := .int .u32 (wordsN l 64 t)) ?_ ?_
  · exact a64_get _ (by omega)
  conv => whnf
  refine ⟨⟨by decide, by decide⟩, ?_⟩
  conv => whnf
  refine ⟨⟨by decide, by decide⟩, ?_⟩
  conv => whnf
  refine ⟨⟨by decide, by decide⟩, ?_⟩
  conv => whnf
  refine ⟨by decide, by decide, ?_⟩
  conv => whnf
  refine R_at ?_ ?_ (hR (t + 1) (by omega) (by omega))
  · rw [← hi1]; kernel_rfl
  · kernel_rfl

set_option maxRecDepth 100000 in
theorem s143 {T : Tab} (hT : TGood Tryz.prog T) : SGood Tryz.prog 172 (flatT g143) := flatT_good g143_det g143_flat fun args Q h => by
  unfold g143 at h
  split at h
  · obtain ⟨s, l, rfl, rfl, hb, h1, hQ⟩ := h
    have t1 := ext_good hT (s150 hT)
    have t2 := ext_good t1 (s151 t1)
    exact body_pure (ext_good t2 (s152 t2)) mixedT Tryz.func172 (entersOf Tryz.func172 (by kernel_rfl) rfl) 65 (f143_ok s l hb h1 T Q hQ 65 (by omega))
  · exact h.elim
end Go.Abs

/-
catenaryref02.Pad is what it comes to.
-/
namespace Go.Abs
open Go Go.Proofs

/-- So many zeros. -/
def padZ (n : Nat) : Nat := (119 - n % 64) % 64
theorem padZ_lt (n : Nat) : padZ n < 64 := Nat.mod_lt _ (by omega)
theorem padZ_mod (n : Nat) : (n + 1 + padZ n) % 64 = 56 := by unfold padZ; omega
/-- The bytes of a size, the highest first; k of them. -/
def sizeB (n : Int) : Nat → List Int
  | 0 => []
  | k + 1 => sizeB n k ++ [IntKind.u8.wrap (n.fdiv (2 ^ (8 * (7 - k))))]
def size8 (l : List Int) : Int := 8 * (l.length : Int)
def padB (l : List Int) : List Int := l ++ 128 :: List.replicate (padZ l.length) 0 ++ sizeB (size8 l) 8
theorem sizeB_len (n : Int) : ∀ k, (sizeB n k).length = k
  | 0 => rfl
  | k + 1 => by simp [sizeB, sizeB_len n k]
theorem sizeB_ok (n : Int) : ∀ k, okB (sizeB n k)
  | 0 => fun b hb => by cases hb
  | k + 1 => fun b hb => by
    simp only [sizeB, List.mem_append, List.mem_singleton] at hb
    rcases hb with hb | rfl
    · exact sizeB_ok n k b hb
    · rw [show ∀ x : Int, IntKind.u8.wrap x = x % 256 from fun x => by simp [IntKind.wrap, IntKind.bits, IntKind.signed]]
      omega
theorem padB_len (l : List Int) : (padB l).length % 64 = 0 ∧ (padB l).length ≤ l.length + 72 ∧ 64 ≤ (padB l).length := by
  have h1 := padZ_mod l.length
  have h2 := padZ_lt l.length
  simp only [padB, List.length_append, List.length_cons, List.length_replicate, sizeB_len]
  omega
theorem padB_ok {l : List Int} (h : okB l) : okB (padB l) := fun b hb => by
  simp only [padB, List.mem_append, List.mem_cons, List.mem_replicate] at hb
  rcases hb with (hb | rfl | ⟨_, rfl⟩) | hb
  · exact h b hb
  · omega
  · omega
  · exact sizeB_ok _ _ b hb

def g142 : GSpec := fun args K => match args with
  | [.slice es] => ∃ l : List Int, es = bsA l ∧ l.length ≤ 1099511627776 ∧ K (.ret (.slice (bsA (padB l))))
  | _ => False
theorem g142_det (args : List AV) : Det (g142 args) := by
  unfold g142
  repeat' (first | exact Det.no | exact Det.at _ | refine Det.and ?_ | refine Det.ex fun _ => ?_ | refine Det.cond ?_ ?_ | split)

set_option maxRecDepth 100000 in
set_option maxHeartbeats 8000000 in
theorem f142_ok (l : List Int) (hl : l.length ≤ 1099511627776) (T : Tab) (Q : AOut → Prop) (hQ : Q (.ret (.slice (bsA (padB l))))) (N : Nat) (hN : 64 < N) :
    abody Tryz.prog T 0 N Tryz.f171 [.slice (bsA l)] [] (fun out Hs => Q (frzO Hs out)) := by
  have hlen : (bsA l).length = l.length := bsA_length l
  conv => whnf
  refine ⟨fits_bs (by omega), ?_⟩
  conv => whnf
  refine ⟨fits_at (ys' := bsA [128]) (by kernel_rfl) (by rw [hlen]; exact fits_bs (by simp; omega)), ?_⟩
  conv => whnf
  refine aloop_at ?_ ?_ (aloop_inv (σ := Nat) (fun z => ((sp 0 37 [(0, .slice (bsA l)), (3, .row 0)]), [.row true 5 1 (bsA (l ++ 128 :: List.replicate z 0))]))
    (fun z => z ≤ padZ l.length) (fun z => padZ l.length - z) ?_ N 0 (Nat.zero_le _) (by have := padZ_lt l.length; omega))
  · kernel_rfl
  · show _ = [HO.row true 5 1 (bsA (l ++ [128]))]
    rw [bsA_append l [128]]
    kernel_rfl
  rintro z hz R hR
  have hrow : (bsA (l ++ 128 :: List.replicate z 0)).length = l.length + 1 + z := by simp; omega
  have hz2 := padZ_lt l.length
  have hz3 := padZ_mod l.length
  conv => whnf
  split
  · rename_i h2; have h2 : ((((bsA (l ++ 128 :: List.replicate z 0)).length : Nat) : Int).tmod 64 != 56) = true := h2
    rw [hrow, bne_iff_ne, Int.tmod_eq_emod_of_nonneg (by omega)] at h2
    have hzl : z < padZ l.length := by
      rcases Nat.lt_or_ge z (padZ l.length) with h | h
      · exact h
      · have : z = padZ l.length := by omega
        omega
    conv => whnf
    refine ⟨fits_at (ys' := bsA [0]) (by kernel_rfl) (by
      show FitsA (bsA [0]) 1 1 (bsA (l ++ 128 :: List.replicate z 0)).length
      rw [hrow]
      exact fits_bs (by simp; omega)), ?_⟩
    conv => whnf
    refine R_at ?_ ?_ (hR (z + 1) (by omega) (by omega))
    · kernel_rfl
    · show _ = [HO.row true 5 1 (bsA (l ++ 128 :: List.replicate (z + 1) 0))]
      rw [show l ++ 128 :: List.replicate (z + 1) (0 : Int) = (l ++ 128 :: List.replicate z 0) ++ [0] by rw [List.replicate_succ']; simp, bsA_append (l ++ 128 :: List.replicate z 0) [0]]
      kernel_rfl
  rename_i h2; have h2 : ((((bsA (l ++ 128 :: List.replicate z 0)).length : Nat) : Int).tmod 64 != 56) = false := h2
  rw [hrow, bne_eq_false_iff_eq, Int.tmod_eq_emod_of_nonneg (by omega)] at h2
  have hzl : z = padZ l.length := by omega
  conv => whnf
  clear hR R
  subst hzl
  obtain ⟨p, hp⟩ : ∃ p, p = l ++ 128 :: List.replicate (padZ l.length) 0 := ⟨_, rfl⟩
  have hpl : p.length ≤ l.length + 64 := by rw [hp]; simp; omega
  have hQ' : Q (.ret (.slice (bsA (p ++ sizeB (size8 l) 8)))) := by rw [hp]; exact hQ
  have hsz : IntKind.u64.wrap (IntKind.u64.wrap ((bsA l).length : Int) * 8) = size8 l := by
    unfold size8
    rw [hlen, wrap64 (l.length : Int) (by omega) (by omega), wrap64 _ (by omega) (by omega)]
    omega
  rw [hsz, ← hp]
  refine aloop_at ?_ ?_ (aloop_inv (σ := Nat) (fun k => ((sp 0 37 [(3, .row 0), (4, .int .u64 (size8 l)), (5, .int .i64 (7 - (k : Nat)))]), [.row true 5 1 (bsA (p ++ sizeB (size8 l) k))]))
    (fun k => k ≤ 8) (fun k => 8 - k) ?_ N 0 (Nat.zero_le _) (by omega))
  · kernel_rfl
  · show _ = [HO.row true 5 1 (bsA (p ++ []))]
    rw [List.append_nil]
    kernel_rfl
  rintro k hk R hR
  have hrow2 : (bsA (p ++ sizeB (size8 l) k)).length = p.length + k := by simp [sizeB_len]
  conv => whnf
  split
  rotate_left
  · rename_i h3; have h3 : ¬ (7 - (k : Int)) ≥ 0 := of_decide_eq_false h3
    obtain rfl : k = 8 := by omega
    conv => whnf
    refine Eq.mp ?_ hQ'
    kernel_rfl
  rename_i h3; have h3 : (7 - (k : Int)) ≥ 0 := of_decide_eq_true h3
  have e1 : IntKind.u64.wrap (IntKind.i64.wrap (8 * (7 - (k : Int)))) = 8 * (7 - (k : Int)) := by rw [IntWalk.i64_in _ (by omega), wrap64 _ (by omega) (by omega)]
  have e2 : IntKind.i64.wrap (7 - (k : Int) - 1) = 7 - ((k + 1 : Nat) : Int) := by rw [IntWalk.i64_in _ (by omega)]; omega
  conv => whnf
  rw [e1, decide_eq_true (show 0 ≤ 8 * (7 - (k : Int)) by omega)]
  conv => whnf
  refine ⟨fits_at (ys' := bsA [IntKind.u8.wrap ((size8 l).fdiv (2 ^ min (8 * (7 - (k : Int))).toNat IntKind.u64.bits))]) (by kernel_rfl) (by
    show FitsA (bsA _) 1 1 (bsA (p ++ sizeB (size8 l) k)).length
    rw [hrow2]
    exact fits_bs (by simp; omega)), ?_⟩
  conv => whnf
  refine R_at ?_ ?_ (hR (k + 1) (by omega) (by omega))
  · rw [← e2]; kernel_rfl
  · show _ = [HO.row true 5 1 (bsA (p ++ (sizeB (size8 l) k ++ [IntKind.u8.wrap ((size8 l).fdiv (2 ^ (8 * (7 - k))))])))]
    rw [show 8 * (7 - k) = min (8 * (7 - (k : Int))).toNat IntKind.u64.bits by show _ = min _ 64; omega, ← List.append_assoc, bsA_append (p ++ sizeB (size8 l) k) [_]]
    kernel_rfl

set_option maxRecDepth 100000 in
theorem s142 {T : Tab} (hT : TGood Tryz.prog T) : SGood Tryz.prog 171 (pureT g142) := pureT_good g142_det fun args Q h => by
  unfold g142 at h
  split at h
  · obtain ⟨l, rfl, hl, hQ⟩ := h
    exact body_pure hT mixedT Tryz.func171 (entersOf Tryz.func171 (by kernel_rfl) rfl) 65 (f142_ok l hl T Q hQ 65 (by omega))
  · exact h.elim
end Go.Abs

