/-
(*bytes.Buffer).Len, Bytes are what they come to.
-/
import Derived.Test.YtcjpbmdmomaibaaDoorAbt9
import Derived.Test.YtcjpbmdmomaibaaDoorAbt11
namespace Go.Abs
open Go Go.Proofs
variable {P : Program}

/-- A look at a writer. -/
def peekT (res : Nat → Nat → AV) : Spec := fun args H Q => match args with
  | [.ptr b o] => match o, H[b]? with
    | 0, some (.var [.row r, .int .i64 z, .int .i8 y, .bool _]) => match H[r]? with
      | some (.row true e sz es) => cond (decide (z = 0) && decide (y = 0)) (cond (Nat.beq e 5 && Nat.beq sz 1) (es.length ≤ 1099511627776 ∧ Q (.ret (res r es.length)) H) False) False
      | _ => False
    | _, _ => False
  | _ => False

theorem peekT_inv {res : Nat → Nat → AV} {args : List AV} {H : Heap} {Q : AOut → Heap → Prop} (h : peekT res args H Q) :
    ∃ b r es bad, args = [.ptr b 0] ∧ H[b]? = some (wvar r bad) ∧ H[r]? = some (wrow es) ∧ es.length ≤ 1099511627776 ∧ Q (.ret (res r es.length)) H := by
  unfold peekT at h
  split at h
  case h_2 => exact h.elim
  split at h
  case h_2 => exact h.elim
  split at h
  case h_2 => exact h.elim
  rename_i hr
  replace h := cond_zy h
  obtain ⟨rfl, rfl, h⟩ := h
  replace h := cond_es h
  obtain ⟨rfl, rfl, h⟩ := h
  exact ⟨_, _, _, _, rfl, by assumption, hr, h.1, h.2⟩
theorem peekT_mk {res : Nat → Nat → AV} {b r : Nat} {es : List (List AV)} {bad : Bool} {H : Heap} {Q : AOut → Heap → Prop} (hb : H[b]? = some (wvar r bad)) (hr : H[r]? = some (wrow es)) (hl : es.length ≤ 1099511627776)
    (hQ : Q (.ret (res r es.length)) H) : peekT res [.ptr b 0] H Q := by
  unfold peekT
  simp only [hb, wvar, hr, wrow]
  exact ⟨hl, hQ⟩

theorem peekT_good {f : FuncId} {res : Nat → Nat → AV} (hres : ∀ (ρ : Nat → Option Nat) r r' n, ρ r = some r' → ren ρ (res r n) = res r' n)
    (h : ∀ l bad (Q : AOut → Heap → Prop), l.length ≤ 1099511627776 → Q (.ret (res 1 l.length)) [wvar 1 bad, wrow l] → FOK P f [.ptr 0 0] [wvar 1 bad, wrow l] Q) : SGood P f (peekT res) where
  ok := fun args H Q hg => by
    obtain ⟨b, r, es, bad, rfl, hb, hr, hl, hQ⟩ := peekT_inv hg
    have hne : b ≠ r := fun e => by subst e; rw [hb] at hr; cases hr
    have hbl : b < H.length := (List.getElem?_eq_some_iff.1 hb).1
    have hrl : r < H.length := (List.getElem?_eq_some_iff.1 hr).1
    have i0 : ([b, r] : List Nat).idxOf? b = some 0 := by simp [List.idxOf?, List.findIdx?_cons]
    have i1 : ([b, r] : List Nat).idxOf? r = some 1 := by simp [List.idxOf?, List.findIdx?_cons, hne]
    refine sub_call (ids := [b, r]) (by simp [hne]) (fun x hx => by simp at hx; rcases hx with rfl | rfl <;> assumption) ?_
    have e1 : renL (([b, r] : List Nat).idxOf? ·) [.ptr b 0] = [.ptr 0 0] := by
      simp only [renL, ren, i0]
    have e2 : subH H [b, r] = [wvar 1 bad, wrow es] := by
      simp only [subH, List.map_cons, List.map_nil, List.getD_eq_getElem?_getD, hb, hr, Option.getD_some, wvar, renH, renL, ren, i1]
      rfl
    rw [e1, e2]
    refine h es bad _ hl ?_
    have b0 : backN H.length [b, r] 2 0 = some b := by simp [backN]
    have b1 : backN H.length [b, r] 2 1 = some r := by simp [backN]
    have e3 : outR (backN H.length [b, r] 2) (.ret (res 1 es.length)) = .ret (res r es.length) := by simp only [outR, hres _ 1 r _ b1]
    have e4 : mergeH H [b, r] [wvar 1 bad, wrow es] = H := by
      unfold mergeH
      simp only [List.length_cons, List.length_nil, Nat.zero_add, Nat.reduceAdd, List.drop_succ_cons, List.drop_zero, List.map_nil, List.append_nil]
      refine List.ext_getElem? fun i => ?_
      rw [List.getElem?_map, List.getElem?_zipIdx]
      by_cases hir : i = r
      · subst hir
        rw [hr]
        simp [i1, renH, wrow]
      · by_cases hib : i = b
        · subst hib
          rw [hb]
          simp only [Option.map_some, Nat.zero_add, i0, List.getD_cons_zero, wvar, renH, renL, ren, b1]
        · cases hi : H[i]? with
          | none => rfl
          | some o =>
            have : ([b, r] : List Nat).idxOf? i = none := by rw [List.idxOf?_eq_none_iff]; simp [hib, hir]
            simp [this]
    simp only [List.length_cons, List.length_nil] at *
    rw [e3, e4]
    exact hQ
  ang := fun args H K hg => by
    obtain ⟨b, r, es, bad, rfl, hb, hr, hl, hQ⟩ := peekT_inv hg
    exact ⟨_, _, peekT_mk hb hr hl ⟨rfl, rfl⟩, hQ⟩
  mono := fun args H K K' hk hg => by
    obtain ⟨b, r, es, bad, rfl, hb, hr, hl, hQ⟩ := peekT_inv hg
    exact peekT_mk hb hr hl (hk _ _ hQ)

def resLen (_ n : Nat) : AV := .int .i64 n
def resBytes (r n : Nat) : AV := .srow r 0 n

set_option maxRecDepth 100000 in
set_option maxHeartbeats 4000000 in
theorem f50_ok (l : List (List AV)) (bad : Bool) (hl : l.length ≤ 1099511627776) (T : Tab) (Q : AOut → Heap → Prop) (hQ : Q (.ret (.int .i64 l.length)) [wvar 1 bad, wrow l]) (N : Nat) :
    abody Tryd.prog T 2 N Tryd.f50 [.ptr 0 0] [wvar 1 bad, wrow l] Q := by
  have hw : IntKind.i64.wrap ((l.length : Int) - 0) = (l.length : Int) := by rw [IntWalk.i64_in _ (by omega)]; omega
  conv => whnf
  refine ⟨[], ?_⟩
  conv => whnf
  rw [← hw] at hQ
  refine Eq.mp ?_ hQ
  kernel_rfl

set_option maxRecDepth 100000 in
set_option maxHeartbeats 4000000 in
theorem f51_ok (l : List (List AV)) (bad : Bool) (T : Tab) (Q : AOut → Heap → Prop) (hQ : Q (.ret (.srow 1 0 l.length)) [wvar 1 bad, wrow l]) (N : Nat) :
    abody Tryd.prog T 2 N Tryd.f51 [.ptr 0 0] [wvar 1 bad, wrow l] Q := by
  conv => whnf
  refine ⟨[], ?_⟩
  conv => whnf
  refine ⟨rfl, ⟨by omega, by omega⟩, ?_⟩
  conv => whnf
  refine Eq.mp ?_ hQ
  kernel_rfl

set_option maxRecDepth 100000 in
theorem s50 {T : Tab} (hT : TGood Tryd.prog T) : SGood Tryd.prog 50 (peekT resLen) := peekT_good (fun _ _ _ _ _ => rfl) fun l bad Q hl hQ =>
  abody_sound hT.ok hT.ang hT.mono mixedT Tryd.func50 (entersOf Tryd.func50 (by kernel_rfl) rfl) (f50_ok l bad hl T Q hQ 0)
set_option maxRecDepth 100000 in
theorem s51 {T : Tab} (hT : TGood Tryd.prog T) : SGood Tryd.prog 51 (peekT resBytes) := peekT_good (fun ρ r r' n h => by simp only [resBytes, ren, h]) fun l bad Q _ hQ =>
  abody_sound hT.ok hT.ang hT.mono mixedT Tryd.func51 (entersOf Tryd.func51 (by kernel_rfl) rfl) (f51_ok l bad T Q hQ 0)

end Go.Abs

/-
msg.empty is what it comes to.
-/
namespace Go.Abs
open Go Go.Proofs

def g49 : GSpec := fun args K => match args with
  | [.agg cs, .int .i32 f] => ∃ (m : MsV) (i : Nat), cs = msC m ∧ OkM m ∧ i < 15 ∧ f = letter i ∧ cM m ≤ 1073741824 ∧ K (.ret (.bool (emptyF m i)))
  | _ => False
theorem g49_det (args : List AV) : Det (g49 args) := by
  unfold g49
  repeat' (first | exact Det.no | exact Det.at _ | refine Det.and ?_ | refine Det.ex fun _ => ?_ | refine Det.cond ?_ ?_ | split)
theorem g49_flat (args : List AV) (o : AOut) (h : g49 args (· = o)) : flatO o = true := by
  unfold g49 at h
  split at h
  · obtain ⟨_, _, _, _, _, _, _, rfl⟩ := h; rfl
  · exact h.elim

set_option maxRecDepth 100000 in
set_option maxHeartbeats 4000000 in
theorem f49_ok (m : MsV) (hm : OkM m) (i : Nat) (hi : i < 15) (hc : cM m ≤ 1073741824) (T : Tab) (Q : AOut → Prop) (hQ : Q (.ret (.bool (emptyF m i)))) (N : Nat) :
    abody Tryd.prog (ext (ext (ext T 48 (writerT g48)) 51 (peekT resBytes)) 71 (flatT g18)) 0 N Tryd.f49 [.agg (msC m), .int .i32 (letter i)] [] (fun out Hs => Q (frzO Hs out)) := by
  have hl1 := wField_c m i ([], false)
  have hl2 := wField_c zM i ([], false)
  have hz := cM_z
  have hb1 := wField_b hm i ([], false) okB_nil
  have hb2 := wField_b okM_z i ([], false) okB_nil
  simp only [List.length_nil, Nat.zero_add] at hl1 hl2
  conv => whnf
  refine ⟨m, i, rfl, hm, hi, rfl, [], rfl, by omega, ?_⟩
  conv => whnf
  refine ⟨zM, i, rfl, okM_z, hi, rfl, [], rfl, by omega, ?_⟩
  unfold emptyF at hQ
  cases hbad : (wField m i ([], false)).2 with
  | true =>
    rw [hbad] at hQ
    conv => whnf
    refine Eq.mp ?_ hQ
    kernel_rfl
  | false =>
    rw [hbad] at hQ
    conv => whnf
    refine ⟨by rw [bsA_length]; omega, ?_⟩
    conv => whnf
    refine ⟨by rw [bsA_length]; omega, ?_⟩
    conv => whnf
    refine ⟨_, _, List.take_of_length_le (by simp), List.take_of_length_le (by simp), hb1, hb2, ?_⟩
    conv => whnf
    refine Eq.mp ?_ hQ
    kernel_rfl

set_option maxRecDepth 100000 in
theorem s49 {T : Tab} (hT : TGood Tryd.prog T) : SGood Tryd.prog 49 (flatT g49) := flatT_good g49_det g49_flat fun args Q h => by
  unfold g49 at h
  split at h
  · obtain ⟨m, i, rfl, hm, hi, rfl, hc, hQ⟩ := h
    have h1 := ext_good hT (s48 hT)
    have h2 := ext_good h1 (s51 h1)
    exact body_pure (ext_good h2 (s71 h2)) mixedT Tryd.func49 (entersOf Tryd.func49 (by kernel_rfl) rfl) 0 (f49_ok m hm i hi hc T Q hQ 0)
  · exact h.elim
end Go.Abs

/-
msg.Encode is what it comes to.
-/
namespace Go.Abs
open Go Go.Proofs

def allL : List Int := [98, 115, 102, 116, 105, 99, 114, 111, 100, 103, 101, 118, 112, 107, 113]
theorem allL_get : ∀ i : Fin 15, allL[i.val]? = some (letter i.val) := by decide
theorem allL_okA : okA allL := by unfold okA; decide
def hasF (k : Int) (i : Nat) : Bool := (fieldsL k).contains (letter i)
theorem fieldsL_prop (p : List Int → Prop) (k : Int) (h : ∀ l ∈ [[], [114], [98, 115, 114, 118], [98, 115, 114, 101, 118], [102, 116, 105, 100, 103], [98, 102, 116, 103], [98, 102, 116, 103, 101], [113], [98, 103, 112, 113], [115, 100, 118], [115, 102], [115, 102, 105, 99, 100, 103], [98, 115, 102, 105, 114, 111, 100, 103], [98], [98, 115, 112, 107], [98, 115, 114], [98, 115, 114, 101], [115, 100, 101]], p l) : p (fieldsL k) := by
  have c : ∀ {b : Bool} {x y : List Int}, p x → p y → p (cond b x y) := fun {b x y} hx hy => by cases b; exact hy; exact hx
  unfold fieldsL
  repeat' (first | refine c ?_ ?_ | (refine h _ ?_; decide))
theorem fieldsL_ok (k : Int) : okA (fieldsL k) ∧ (fieldsL k).length ≤ 1000 := by
  refine fieldsL_prop (fun l => okA l ∧ l.length ≤ 1000) k ?_
  unfold okA
  decide

/-- What is written behind i letters; are all fields that aren't there empty? -/
def encS (m : MsV) : Nat → WS
  | 0 => wNum m.kind ([], false)
  | i + 1 => cond (hasF m.kind i) (wField m i (encS m i)) (encS m i)
def empAll (m : MsV) : Nat → Bool
  | 0 => true
  | i + 1 => empAll m i && (hasF m.kind i || emptyF m i)
def encE (m : MsV) : Int :=
  if fieldsL m.kind = [] then 51 else if empAll m 15 = false then 51 else if (encS m 15).2 = true then 51 else if ((encS m 15).1.length : Int) > 1048576 then 53 else 0
theorem empAll_false (m : MsV) : ∀ (n i : Nat), i < n → hasF m.kind i = false → emptyF m i = false → empAll m n = false
  | n + 1, i, h, h1, h2 => by
    unfold empAll
    by_cases hi : i = n
    · subst hi; rw [h1, h2]; simp
    · rw [empAll_false m n i (by omega) h1 h2]; rfl
theorem encS_c (m : MsV) : ∀ i, (encS m i).1.length ≤ 6 + i * cM m
  | 0 => by have := wNum_c m.kind ([], false); simpa [encS] using this
  | i + 1 => by
    have h := encS_c m i
    have h2 := wField_c m i (encS m i)
    unfold encS
    rw [Nat.succ_mul]
    cases hasF m.kind i with
    | true => show (wField m i (encS m i)).1.length ≤ _; omega
    | false => show (encS m i).1.length ≤ _; omega

def encK (m : MsV) (K : AOut → Heap → Prop) : Prop :=
  cond (encE m == 0) (K (.ret (.tuple [.srow 0 0 (encS m 15).1.length, .int .i64 0])) [.row true 5 1 (bsA (encS m 15).1)]) (K (.ret (.tuple [.zslice, .int .i64 (encE m)])) [])
def g16 : FSpec := fun args K => match args with
  | [.agg cs] => ∃ m : MsV, cs = msC m ∧ OkM m ∧ cM m ≤ 1073741824 ∧ encK m K
  | _ => False
theorem g16_det (args : List AV) : DetF (g16 args) := by
  unfold g16 encK
  repeat' (first | exact DetF.no | exact DetF.at _ _ | refine DetF.and ?_ | refine DetF.ex fun _ => ?_ | refine DetF.cond ?_ ?_ | split)

set_option maxRecDepth 100000 in
set_option maxHeartbeats 8000000 in
theorem f16_ok (m : MsV) (hm : OkM m) (hc : cM m ≤ 1073741824) (T : Tab) (Q : AOut → Heap → Prop) (hQ : encK m Q) (N : Nat) (hN : 15 < N) :
    abody Tryd.prog (ext (ext (ext (ext (ext (ext (ext T 45 (flatT g45)) 46 (writerT g46)) 47 (flatT g47)) 48 (writerT g48)) 49 (flatT g49)) 50 (peekT resLen)) 51 (peekT resBytes)) 0 N Tryd.f16 [.agg (msC m)] [] Q := by
  have bad : ∀ e, encE m = e → e ≠ 0 → Q (.ret (.tuple [.zslice, .int .i64 e])) [] := fun e h1 h2 => by
    unfold encK at hQ
    rw [h1, show (e == 0) = false from beq_eq_false_iff_ne.2 h2] at hQ
    exact hQ
  have good : encE m = 0 → Q (.ret (.tuple [.srow 0 0 (encS m 15).1.length, .int .i64 0])) [.row true 5 1 (bsA (encS m 15).1)] := fun h1 => by
    unfold encK at hQ
    rw [h1] at hQ
    exact hQ
  clear hQ
  have hsz : ∀ i, i ≤ 15 → (encS m i).1.length ≤ 1099511627776 := fun i hi => by
    have := encS_c m i
    have := Nat.mul_le_mul_right (cM m) hi
    omega
  conv => whnf
  split
  · rename_i h1
    have h1 : ((baOf (fieldsL m.kind)).toList == (baOf []).toList) = true := h1
    rw [baOf_inj (fun b hb => by have := (fieldsL_ok m.kind).1 b hb; omega) okB_nil, decide_eq_true_eq] at h1
    have := bad 51 (by unfold encE; rw [if_pos h1]) (by decide)
    refine Eq.mp ?_ this
    kernel_rfl
  rename_i h1
  have h1 : ((baOf (fieldsL m.kind)).toList == (baOf []).toList) = false := h1
  rw [baOf_inj (fun b hb => by have := (fieldsL_ok m.kind).1 b hb; omega) okB_nil, decide_eq_false_iff_not] at h1
  conv => whnf
  refine ⟨[], rfl, hsz 0 (by omega), ?_⟩
  conv => whnf
  refine aloop_at ?_ ?_ (aloop_inv (σ := Nat) (fun i => ((sp 0 39 [(1, .ptr 0 0), (4, .str (baOf (fieldsL m.kind))), (5, .ptr 1 0), (16, .ptr 3 0)]), [.var (msC m), wvar 2 (encS m i).2, wrow (bsA (encS m i).1), .iter (baOf allL) i]))
    (fun i => i ≤ 15 ∧ empAll m i = true) (fun i => 15 - i) ?_ N 0 ⟨Nat.zero_le _, rfl⟩ (by omega))
  · kernel_rfl
  · kernel_rfl
  rintro i ⟨hi, hemp⟩ R hR
  conv => whnf
  split
  rotate_left
  · rename_i h2
    have h2 : ¬ i < (baOf allL).size := fun h => by rw [← Nat.blt_eq] at h; rw [show Nat.blt i (baOf allL).size = false from h2] at h; cases h
    rw [baOf_size] at h2
    have hi15 : i = 15 := by have : allL.length = 15 := rfl; omega
    subst hi15
    clear hR
    cases hb : (encS m 15).2 with
    | true =>
      have := bad 51 (by unfold encE; rw [if_neg h1, hemp, hb]; rfl) (by decide)
      conv => whnf
      refine Eq.mp ?_ this
      kernel_rfl
    | false =>
      conv => whnf
      refine ⟨by rw [bsA_length]; exact hsz 15 (by omega), ?_⟩
      conv => whnf
      split
      · rename_i h3
        have h3 : (((bsA (encS m 15).1).length : Nat) : Int) > 1048576 := of_decide_eq_true h3
        rw [bsA_length] at h3
        have := bad 53 (by unfold encE; rw [if_neg h1, hemp, hb, if_pos h3]; rfl) (by decide)
        conv => whnf
        refine Eq.mp ?_ this
        kernel_rfl
      · rename_i h3
        have h3 : ¬ (((bsA (encS m 15).1).length : Nat) : Int) > 1048576 := of_decide_eq_false h3
        rw [bsA_length] at h3
        have := good (by unfold encE; rw [if_neg h1, hemp, hb, if_neg h3]; rfl)
        conv => whnf
        refine ⟨by rw [bsA_length]; exact hsz 15 (by omega), ?_⟩
        conv => whnf
        rw [← bsA_length] at this
        refine Eq.mp ?_ this
        kernel_rfl
  rename_i h2
  have h2 : i < (baOf allL).size := Nat.blt_eq.mp h2
  rw [baOf_size] at h2
  have hi15 : i < 15 := h2
  have hget : allL[i]? = some (letter i) := allL_get ⟨i, hi15⟩
  have hd := dec_baOf allL_okA hget
  have hb0 := (allL_okA _ (List.mem_of_getElem? hget)).1
  have hd1 : ((Utf8.decode (baOf allL) i).1 : Int) = letter i := by rw [hd]; show (((letter i).toNat : Nat) : Int) = letter i; omega
  have hd2 : (Utf8.decode (baOf allL) i).2 = 1 := by rw [hd]
  conv => whnf
  rw [hd1]
  refine ⟨fieldsL m.kind, rfl, (fieldsL_ok _).1, (fieldsL_ok _).2, ?_⟩
  have hH : ∀ x y z : HO, [x, y, z, HO.iter (baOf allL) (i + (Utf8.decode (baOf allL) i).2)] = [x, y, z, HO.iter (baOf allL) (i + 1)] := fun x y z => by rw [hd2]
  conv => whnf
  split
  · rename_i h3
    have h3 : hasF m.kind i = true := h3
    have hs : encS m (i + 1) = wField m i (encS m i) := by show cond (hasF m.kind i) _ _ = _; rw [h3]; rfl
    conv => whnf
    refine ⟨m, i, rfl, hm, hi15, rfl, _, rfl, by rw [← hs]; exact hsz (i + 1) (by omega), ?_⟩
    conv => whnf
    refine R_at ?_ ?_ (hR (i + 1) ⟨by omega, by show (empAll m i && (hasF m.kind i || emptyF m i)) = true; rw [hemp, h3]; rfl⟩ (by omega))
    · kernel_rfl
    · rw [hs]
      refine Eq.trans ?_ (hH _ _ _)
      kernel_rfl
  · rename_i h3
    have h3 : hasF m.kind i = false := h3
    have hs : encS m (i + 1) = encS m i := by show cond (hasF m.kind i) _ _ = _; rw [h3]; rfl
    conv => whnf
    refine ⟨m, i, rfl, hm, hi15, rfl, hc, ?_⟩
    cases he : emptyF m i with
    | false =>
      have := bad 51 (by unfold encE; rw [if_neg h1, if_pos (empAll_false m 15 i hi15 h3 he)]) (by decide)
      conv => whnf
      refine Eq.mp ?_ this
      kernel_rfl
    | true =>
      conv => whnf
      refine R_at ?_ ?_ (hR (i + 1) ⟨by omega, by show (empAll m i && (hasF m.kind i || emptyF m i)) = true; rw [hemp, h3, he]; rfl⟩ (by omega))
      · kernel_rfl
      · rw [hs]
        refine Eq.trans ?_ (hH _ _ _)
        kernel_rfl

set_option maxRecDepth 100000 in
theorem s16 {T : Tab} (hT : TGood Tryd.prog T) : SGood Tryd.prog 16 (freshT g16) := freshT_good g16_det fun args Q h => by
  unfold g16 at h
  split at h
  · obtain ⟨m, rfl, hm, hc, hQ⟩ := h
    have h1 := ext_good hT (s45 hT)
    have h2 := ext_good h1 (s46 h1)
    have h3 := ext_good h2 (s47 h2)
    have h4 := ext_good h3 (s48 h3)
    have h5 := ext_good h4 (s49 h4)
    have h6 := ext_good h5 (s50 h5)
    exact body_fresh (ext_good h6 (s51 h6)) mixedT Tryd.func16 (entersOf Tryd.func16 (by kernel_rfl) rfl) 16 (f16_ok m hm hc T Q hQ 16 (by omega))
  · exact h.elim
end Go.Abs

/-
msg.Decode: what its code comes to.
-/
namespace Go.Abs
open Go Go.Proofs

def zCk (k : Int) : List AV := [.int .i64 k, .int .i64 0, .int .i64 0, .int .i64 0, .int .i64 0, .int .i64 0, .int .i64 0, .int .i64 0, .int .i64 0, .int .i64 0, .zslice, .zslice, .int .i64 0, .int .i64 0, .zslice, .zslice, .zslice, .zslice, .zslice, .zslice, .zslice, .zslice, .zslice]
def rLoop (l : List Int) (k : Int) : Nat → Nat → MsV → RM MsV
  | 0, _, m => RM.pure m
  | n + 1, i, m => RM.bind (cond (hasF k i) (rField l m i) (RM.pure m)) fun m' => rLoop l k n (i + 1) m'
/-- The message, and the error's number. -/
def decM (l : List Int) : MsV × Int :=
  if (l.length : Int) > 1048576 then (zM, 53) else
  match rNum l 0 with
  | (none, _) => (zM, 51)
  | (some k, a1) => match rLoop l k 15 0 { zM with kind := k } a1 with
    | (none, _) => (zM, 51)
    | (some m, a2) => if fieldsL k = [] ∨ ¬ a2 = l.length then (zM, 51) else (m, 0)

def H0d : Heap := [.var zC, .var [.int .i64 0]]
def A0d (l : List Int) : List AV := [.slice (bsA l), .tuple [], .ptr 0 0, .ptr 1 0] ++ List.replicate 41 (.tuple [])
def A1d (l : List Int) : List AV := [.slice (bsA l), .tuple [], .ptr 0 0, .ptr 1 0, .tuple [], .tuple [], .tuple [], .tuple [], .slice (bsA l), .int .i64 ((bsA l).length : Nat), .bool false] ++ List.replicate 34 (.tuple [])
def A2d (l : List Int) : List AV := [.slice (bsA l), .tuple [], .ptr 0 0, .ptr 1 0, .tuple [], .tuple [], .tuple [], .tuple [], .slice (bsA l), .int .i64 ((bsA l).length : Nat), .bool false, .tuple [], .func (.func 58) [] [.ptr 0 0, .ptr 1 0]] ++ List.replicate 32 (.tuple [])
def leD : LE := { nxt := [], ex := [], rt := [2, 3] }
def RetD (Q : AOut → Prop) (a : List AV) (H : Heap) : Prop := ∃ cs e0, agc 2 [0, 1] [a.getD 2 .any, a.getD 3 .any] H = ([.ptr 0 0, .ptr 1 0], [.var cs, .var [.int .i64 e0]]) ∧ (∃ m, cs.map unz = msC m) ∧ Q (.ret (.tuple [.agg (cs.map unz), .int .i64 e0]))
def K0d (l : List Int) : KT := fun e a H => e = .normal ∧ a = A0d l ∧ H = H0d
def K1d (l : List Int) (Q : AOut → Prop) : KT := fun e a H => (e = .normal ∧ a = A1d l ∧ H = H0d ∧ ¬ (l.length : Int) > 1048576) ∨ (e = .ret ∧ RetD Q a H)
def K3d (Q : AOut → Prop) : KT := fun e a H => match e with
  | .pan v => ∃ cs m, agc 2 [0, 1, 2] [v, a.getD 2 .any, a.getD 3 .any] H = ([eM, .ptr 0 0, .ptr 1 0], [.var cs, .var [.int .i64 0]]) ∧ cs.map unz = msC m ∧ Q (.ret (.tuple [.agg (msC zM), .int .i64 51]))
  | .exit _ => False
  | _ => RetD Q a H

set_option maxRecDepth 100000 in
set_option maxHeartbeats 4000000 in
theorem d0_ok (l : List Int) (T : Tab) (N : Nat) : acode Tryd.prog T 0 N (seqL (bodyOf Tryd.f20)) leD (K0d l) ([.slice (bsA l)] ++ List.replicate 44 (.tuple [])) [] := by
  conv => whnf
  refine ⟨rfl, ?_, ?_⟩
  · kernel_rfl
  · kernel_rfl

set_option maxRecDepth 100000 in
set_option maxHeartbeats 4000000 in
theorem d1_ok (l : List Int) (T : Tab) (N : Nat) (Q : AOut → Prop) (hQ : Q (.ret (.tuple [.agg (msC (decM l).1), .int .i64 (decM l).2]))) : acode Tryd.prog T 2 N (seqL (seqR (bodyOf Tryd.f20))) leD (K1d l Q) (A0d l) H0d := by
  have hlen : ((bsA l).length : Int) = (l.length : Int) := by rw [bsA_length]
  conv => whnf
  split
  · rename_i h
    have h : ((bsA l).length : Int) > 1048576 := of_decide_eq_true h
    rw [hlen] at h
    unfold decM at hQ
    rw [if_pos h] at hQ
    conv => whnf
    refine .inr ⟨rfl, zC, 53, by kernel_rfl, ⟨zM, rfl⟩, ?_⟩
    exact hQ
  · rename_i h
    have h : ¬ ((bsA l).length : Int) > 1048576 := of_decide_eq_false h
    rw [hlen] at h
    conv => whnf
    refine .inl ⟨rfl, ?_, ?_, h⟩
    · kernel_rfl
    · kernel_rfl

def Tdec (T : Tab) : Tab := ext (ext (ext (ext T 45 (flatT g45)) 47 (flatT g47)) 59 (readerT g59)) 60 fieldRT

set_option maxRecDepth 100000 in
set_option maxHeartbeats 8000000 in
theorem d3_ok (l : List Int) (hl : OkL l) (hbig : ¬ (l.length : Int) > 1048576) (T : Tab) (Q : AOut → Prop) (hQ : Q (.ret (.tuple [.agg (msC (decM l).1), .int .i64 (decM l).2]))) (N : Nat) (hN : 15 < N) :
    acode Tryd.prog (Tdec T) 2 N (seqR (seqR (seqR (bodyOf Tryd.f20)))) leD (K3d Q) (A2d l) H0d := by
  have hlen : ((bsA l).length : Int) = (l.length : Int) := by rw [bsA_length]
  unfold decM at hQ
  rw [if_neg hbig] at hQ
  conv => whnf
  refine ⟨l, rfl, hl, ?_⟩
  rcases h1 : rNum l 0 with ⟨_ | k, a1⟩
  · rw [show g59 l 0 = (none, a1) by simp only [g59, RM.map, h1]]
    rw [h1] at hQ
    conv => whnf
    exact ⟨zC, zM, by kernel_rfl, rfl, hQ⟩
  rw [show g59 l 0 = (some (.int .i64 k), a1) by simp only [g59, RM.map, h1]]
  rw [h1] at hQ
  dsimp only at hQ
  conv => whnf
  refine aloop_at ?_ ?_ (aloop_inv (σ := Nat × Bool × MsV × Int) (fun s => ((sp 0 45 [(0, .slice (bsA l)), (2, .ptr 0 0), (3, .ptr 1 0), (4, .ptr 2 0), (5, .str (baOf (fieldsL k))), (22, .ptr 3 0)]), [.var (cond s.2.1 (msC s.2.2.1) (zCk k)), .var [.int .i64 0], rvar l s.2.2.2, .iter (baOf allL) s.1]))
    (fun s => s.1 ≤ 15 ∧ (s.2.1 = false → s.2.2.1 = { zM with kind := k }) ∧ rLoop l k 15 0 { zM with kind := k } a1 = rLoop l k (15 - s.1) s.1 s.2.2.1 s.2.2.2) (fun s => 15 - s.1) ?_ N (0, false, { zM with kind := k }, a1) ⟨Nat.zero_le _, fun _ => rfl, rfl⟩ (by dsimp only; omega))
  · kernel_rfl
  · kernel_rfl
  rintro ⟨i, fl, m, a⟩ ⟨hi, hfl, hinv⟩ R hR
  dsimp only at hi hfl hinv
  have hcs : ∀ fl', fl' = fl → (cond fl' (msC m) (zCk k)).map unz = msC m := fun fl' e => by
    subst e
    cases fl' with
    | true => rfl
    | false => rw [hfl rfl]; rfl
  cases fl
  all_goals
    have hmm := hcs _ rfl
    clear hcs
    conv => whnf
    split
    rotate_left
    · rename_i h2
      have h2 : ¬ i < (baOf allL).size := fun h => by rw [← Nat.blt_eq] at h; rw [show Nat.blt i (baOf allL).size = false from h2] at h; cases h
      rw [baOf_size] at h2
      have hi15 : i = 15 := by have : allL.length = 15 := rfl; omega
      subst hi15
      clear hR
      have hfin : rLoop l k 15 0 { zM with kind := k } a1 = (some m, a) := hinv
      rw [hfin] at hQ
      dsimp only at hQ
      have he : ((baOf (fieldsL k)).toList == (baOf []).toList) = decide (fieldsL k = []) := baOf_inj (fun b hb => by have := (fieldsL_ok k).1 b hb; omega) okB_nil
      cases hd : decide (fieldsL k = []) with
      | true =>
        rw [hd] at he
        rw [if_pos (.inl (of_decide_eq_true hd))] at hQ
        have he' : ((baOf (fieldsL k)).toList == ({ data := #[] } : ByteArray).toList) = true := he
        conv => whnf
        rw [he']
        conv => whnf
        exact ⟨zC, 51, by kernel_rfl, ⟨zM, rfl⟩, hQ⟩
      | false =>
        rw [hd] at he
        have hne : ¬ fieldsL k = [] := of_decide_eq_false hd
        have he' : ((baOf (fieldsL k)).toList == ({ data := #[] } : ByteArray).toList) = false := he
        conv => whnf
        rw [he']
        conv => whnf
        rw [hlen]
        cases hb : (a != (l.length : Int)) with
        | true =>
          rw [if_pos (.inr (bne_iff_ne.1 hb))] at hQ
          conv => whnf
          exact ⟨zC, 51, by kernel_rfl, ⟨zM, rfl⟩, hQ⟩
        | false =>
          have hab : a = (l.length : Int) := by simpa using hb
          rw [if_neg (by rintro (h | h); exact hne h; exact h hab)] at hQ
          conv => whnf
          rw [← hmm] at hQ
          exact ⟨_, 0, by kernel_rfl, ⟨m, hmm⟩, hQ⟩
    rename_i h2
    have h2 : i < (baOf allL).size := Nat.blt_eq.mp h2
    rw [baOf_size] at h2
    have hi15 : i < 15 := h2
    obtain ⟨n, hn⟩ : ∃ n, 15 - i = n + 1 := ⟨14 - i, by omega⟩
    have hn2 : 15 - (i + 1) = n := by omega
    rw [hn] at hinv
    have hget : allL[i]? = some (letter i) := allL_get ⟨i, hi15⟩
    have hd := dec_baOf allL_okA hget
    have hb0 := (allL_okA _ (List.mem_of_getElem? hget)).1
    have hd1 : ((Utf8.decode (baOf allL) i).1 : Int) = letter i := by rw [hd]; show (((letter i).toNat : Nat) : Int) = letter i; omega
    have hd2 : (Utf8.decode (baOf allL) i).2 = 1 := by rw [hd]
    have hH : ∀ x y z : HO, [x, y, z, HO.iter (baOf allL) (i + (Utf8.decode (baOf allL) i).2)] = [x, y, z, HO.iter (baOf allL) (i + 1)] := fun x y z => by rw [hd2]
    conv => whnf
    rw [hd1]
    refine ⟨fieldsL k, rfl, (fieldsL_ok _).1, (fieldsL_ok _).2, ?_⟩
    conv => whnf
    split
    · rename_i h3
      have h3 : hasF k i = true := h3
      rcases h4 : rField l m i a with ⟨_ | m', a'⟩
      · have : rLoop l k 15 0 { zM with kind := k } a1 = (none, a') := by rw [hinv]; simp only [rLoop, RM.bind, h3, _root_.cond_true, h4]
        rw [this] at hQ
        conv => whnf
        refine ⟨l, m, i, rfl, hmm, hl, hi15, rfl, ?_⟩
        rw [h4]
        conv => whnf
        exact ⟨_, m, by kernel_rfl, msC_unz m, hQ⟩
      · have hst : rLoop l k 15 0 { zM with kind := k } a1 = rLoop l k n (i + 1) m' a' := by rw [hinv]; simp only [rLoop, RM.bind, h3, _root_.cond_true, h4]
        conv => whnf
        refine ⟨l, m, i, rfl, hmm, hl, hi15, rfl, ?_⟩
        rw [h4]
        conv => whnf
        refine R_at ?_ ?_ (hR (i + 1, true, m', a') ⟨by omega, fun h => (by cases h), by rw [hn2]; exact hst⟩ (by dsimp only; omega))
        · kernel_rfl
        · refine Eq.trans ?_ (hH _ _ _)
          kernel_rfl
    · rename_i h3
      have h3 : hasF k i = false := h3
      have hst : rLoop l k 15 0 { zM with kind := k } a1 = rLoop l k n (i + 1) m a := by rw [hinv]; simp only [rLoop, RM.bind, RM.pure, h3, _root_.cond_false]
      conv => whnf
      refine R_at ?_ ?_ (hR (i + 1, _, m, a) ⟨by omega, hfl, by rw [hn2]; exact hst⟩ (by dsimp only; omega))
      · kernel_rfl
      · refine Eq.trans ?_ (hH _ _ _)
        kernel_rfl

end Go.Abs

/-
msg.Decode is what it comes to.
-/
namespace Go.Abs
open Go Go.Proofs

theorem msC_plain (m : MsV) : ∀ y ∈ msC m, (∃ k i, y = .int k i) ∨ ∃ es, y = .slice es := by
  intro y hy
  simp only [msC, List.mem_cons, List.not_mem_nil, or_false] at hy
  rcases hy with h | h | h | h | h | h | h | h | h | h | h | h | h | h | h | h | h | h | h | h | h | h | h <;> subst h <;> first | exact .inl ⟨_, _, rfl⟩ | exact .inr ⟨_, rfl⟩

theorem rv_unz {w w' : World} {M M' : Mut} (hcell : ∀ k i v, w.cell? ⟨k, i, none⟩ = some v → ¬ M k i → w'.cell? ⟨k, i, none⟩ = some v ∧ ¬ M' k i) {n n' : Nat} {G G' : Gh} {v : Value} {x : AV} (h : RV w M n G v x) (hp : (∃ k i, unz x = .int k i) ∨ ∃ es, unz x = .slice es) : RV w' M' n' G' v (unz x) := by
  cases x with
  | zslice => obtain ⟨A, rfl⟩ := h.zslice_inv; exact .slice0 ..
  | int k i => rw [h.int_inv]; exact .int ..
  | slice es => exact h.slice_any hcell
  | _ => rcases hp with ⟨_, _, hp⟩ | ⟨_, hp⟩ <;> cases hp

set_option maxRecDepth 100000 in
theorem res20 : Tryd.f20.results.toList = [.cell 2 33, .cell 3 35] := by kernel_rfl
set_option maxRecDepth 100000 in
theorem ty33 : tyOf Tryd.prog 33 = some (true, 23) := by kernel_rfl
set_option maxRecDepth 100000 in
theorem ty35 : tyOf Tryd.prog 35 = some (false, 1) := by kernel_rfl

theorem agc_any (x : AV) (H : Heap) : (agc 2 [0, 1] [.any, x] H).1.head? = some .any := by simp [agc, keepOnly, renL, ren]
theorem agc_any2 (x : AV) (H : Heap) : (agc 2 [0, 1] [x, .any] H).1[1]? = some .any := by simp [agc, keepOnly, renL, ren]

theorem dec_fin {Mx : Mut} {G G' : Gh} {H' : Heap} {w w' : World} {tmps : Array Value} {a : List AV} {Q : AOut → Prop} (hs : Sim Mx G [] w) (hst : Step 0 Mx G [] w G' H' w') (hsim : Sim Mx G' H' w') (ht : TV w' (MM Mx G' H') H'.length G' tmps a) (hp : 2 ≤ H'.length) (h : RetD Q a H') :
    ∃ v, (results Tryd.f20 tmps).run Tryd.prog w' = .ok v w' ∧ ∃ out H2 G2, Step 0 Mx G [] w G2 H2 w' ∧ Sim Mx G2 H2 w' ∧ ER w' (MM Mx G2 H2) H2.length G2 (.returned v) out ∧ H2 = [] ∧ Q out := by
  obtain ⟨cs, e0, hagc, ⟨m, hm⟩, hQ⟩ := h
  have hlen3 : 3 < a.length := by
    rcases Nat.lt_or_ge 3 a.length with h | h
    · exact h
    · have e3 : a.getD 3 .any = .any := by rw [List.getD_eq_getElem?_getD, List.getElem?_eq_none h]; rfl
      rw [e3] at hagc
      have := agc_any2 (a.getD 2 .any) H'
      rw [hagc] at this
      simp at this
  have g2 : a[2]? = some (a.getD 2 .any) := by rw [List.getD_eq_getElem?_getD, List.getElem?_eq_getElem (by omega)]; rfl
  have g3 : a[3]? = some (a.getD 3 .any) := by rw [List.getD_eq_getElem?_getD, List.getElem?_eq_getElem (by omega)]; rfl
  have hsz := ht.1
  have t2 : tmps[2]? = some tmps[2] := Array.getElem?_eq_getElem (by omega)
  have t3 : tmps[3]? = some tmps[3] := Array.getElem?_eq_getElem (by omega)
  have htv2 : TV w' (MM Mx G' H') H'.length G' #[tmps[2], tmps[3]] [a.getD 2 .any, a.getD 3 .any] := ⟨rfl, fun i v x e1 e2 => by
    match i, e1, e2 with
    | 0, e1, e2 => cases e1; cases e2; exact ht.2 2 _ _ t2 g2
    | 1, e1, e2 => cases e1; cases e2; exact ht.2 3 _ _ t3 g3
    | i + 2, e1, e2 => simp at e2⟩
  obtain ⟨G2, k1, k2, k3, k4⟩ := agc_sound [0, 1] hp hsim htv2
  rw [hagc] at k1 k2 k3 k4
  dsimp only at k1 k2 k3 k4
  -- the results
  let a' : List AV := (List.range tmps.size).map fun i => if i = 2 then .ptr 0 0 else if i = 3 then .ptr 1 0 else .any
  have htv : TV w' (MM Mx G2 [.var cs, .var [.int .i64 e0]]) 2 G2 tmps a' := ⟨by simp [a'], fun i v x e1 e2 => by
    simp only [a', List.getElem?_map, Option.map_eq_some_iff] at e2
    obtain ⟨j, hj, rfl⟩ := e2
    have hij := (List.getElem?_eq_some_iff.1 hj).2
    rw [List.getElem_range] at hij
    subst hij
    by_cases h2 : i = 2
    · subst h2
      rw [t2] at e1
      cases e1
      exact k2.2 0 _ _ rfl rfl
    · by_cases h3 : i = 3
      · subst h3
        rw [t3] at e1
        cases e1
        exact k2.2 1 _ _ rfl rfl
      · rw [if_neg h2, if_neg h3]; exact .any ..⟩
  have hcl : cs.length = 23 := by have := congrArg List.length hm; simpa [msC] using this
  have a2 : a'.getD 2 .any = .ptr 0 0 := by
    simp only [a', List.getD_eq_getElem?_getD, List.getElem?_map]
    rw [List.getElem?_range (by omega)]
    rfl
  have a3 : a'.getD 3 .any = .ptr 1 0 := by
    simp only [a', List.getD_eq_getElem?_getD, List.getElem?_map]
    rw [List.getElem?_range (by omega)]
    rfl
  have hres : aresults Tryd.prog a' [.var cs, .var [.int .i64 e0]] Tryd.f20.results.toList = some [.agg cs, .int .i64 e0] := by
    rw [res20]
    simp only [aresults, a2, a3, cellsAt, ty33, ty35, List.getElem?_cons_zero, List.getElem?_cons_succ, List.drop_zero]
    rw [if_pos (by omega), List.take_of_length_le (by omega)]
  obtain ⟨us, r1, r2, r3⟩ := aresults_sound (P := Tryd.prog) k1 htv Tryd.f20.results.toList _ hres
  match us, r2 with
  | [u0, u1], _ =>
    refine ⟨.tuple #[u0, u1], ?_, .ret (.tuple [.agg (cs.map unz), .int .i64 e0]), [], G0, ?_, ?_, ?_, rfl, hQ⟩
    · have hm : (Tryd.f20.results.mapM (m := Sem) fun | .tmp t => pure (tmps.getD t undef) | .cell a t => do loadVar t (← asAddr (tmps.getD a undef))).run Tryd.prog w' = .ok #[u0, u1] w' := by
        rw [← Array.toArray_toList (xs := Tryd.f20.results), List.mapM_toArray, Sem.run_map]
        exact congrArg (fun r => Result.andThen r fun a w' => .ok a.toArray w') r1
      refine (Sem.run_bind (P := Tryd.prog) (w := w') (x := Tryd.f20.results.mapM (m := Sem) fun | .tmp t => pure (tmps.getD t undef) | .cell a t => do loadVar t (← asAddr (tmps.getD a undef))) (f := fun vs => pure (if h : vs.size = 1 then vs[0] else .tuple vs))).trans ?_
      rw [hm]
      rfl
    · exact ⟨hst.os, hst.tape, hst.output, hst.size, ⟨Nat.le_refl _, Nat.le_refl _⟩, hst.far, fun k i v g1 g2 => ⟨(hst.still k i v g1 g2).1, fun hm => by
        rcases hm with hm | ⟨b, l, o, hb, _⟩
        · exact g2 (.inl hm)
        · cases hb⟩, fun b l hb => absurd hb (Nat.not_lt_zero _), fun b l k hb => by cases hb⟩
    · exact ⟨fun b l hb => (by cases hb), fun b o hb => (by simp at hb), fun b b' l l' k hb => (by cases hb), fun b l k i hb => (by cases hb), fun k i hm => Nat.lt_of_lt_of_le (hs.lt k i hm) hst.size⟩
    · have hc : ∀ k i v, w'.cell? ⟨k, i, none⟩ = some v → ¬ MM Mx G2 [.var cs, .var [.int .i64 e0]] k i → w'.cell? ⟨k, i, none⟩ = some v ∧ ¬ MM Mx G0 [] k i := fun k i v g1 g2 => ⟨g1, fun hm => by
        rcases hm with hm | ⟨b, l, o, hb, _⟩
        · exact g2 (.inl hm)
        · cases hb⟩
      have q0 := r3 0 u0 (.agg cs) rfl rfl
      have q1 := (r3 1 u1 (.int .i64 e0) rfl rfl).int_inv
      subst q1
      refine .ret _ _ (.tuple _ _ _ _ rfl fun i v x e1 e2 => ?_)
      match i, e1, e2 with
      | 0, e1, e2 =>
        cases e1; cases e2
        obtain ⟨vs, rfl, hvl, hvc⟩ := q0.agg_inv
        refine .agg _ _ _ _ (by rw [List.length_map]; exact hvl) fun j v y e1 e2 => ?_
        rw [List.getElem?_map, Option.map_eq_some_iff] at e2
        obtain ⟨x, hx, rfl⟩ := e2
        refine rv_unz hc (hvc j v x e1 hx) (msC_plain m (unz x) ?_)
        rw [← hm]
        exact List.mem_map_of_mem (List.mem_of_getElem? hx)
      | 1, e1, e2 => cases e1; cases e2; exact .int ..
      | i + 2, e1, e2 => simp at e2


theorem body20 : Tryd.f20.body = some (.seq (seqL (bodyOf Tryd.f20)) (.seq (seqL (seqR (bodyOf Tryd.f20))) (.seq (seqL (seqR (seqR (bodyOf Tryd.f20)))) (seqR (seqR (seqR (bodyOf Tryd.f20))))))) := by kernel_rfl
theorem reg20 : ∃ id o1 o2, seqL (seqR (seqR (bodyOf Tryd.f20))) = .region id #[o1, o2] false ∧ o1.op = .makeFunc (.func 58) #[] #[.tmp 2, .tmp 3] ∧ o1.guard = none ∧ o1.dst = some 12 ∧
    o2.op = .defer { callee := .value (.tmp 12), args := #[], argTypes := #[] } ∧ o2.guard = none ∧ o2.dst = none := ⟨_, _, _, rfl, rfl, rfl, rfl, rfl, rfl, rfl⟩

def g20 : GSpec := fun args K => match args with
  | [.slice es] => ∃ l : List Int, es = bsA l ∧ OkL l ∧ K (.ret (.tuple [.agg (msC (decM l).1), .int .i64 (decM l).2]))
  | _ => False
theorem g20_det (args : List AV) : Det (g20 args) := by
  unfold g20
  repeat' (first | exact Det.no | exact Det.at _ | refine Det.and ?_ | refine Det.ex fun _ => ?_ | refine Det.cond ?_ ?_ | split)

set_option maxRecDepth 100000 in
set_option maxHeartbeats 4000000 in
theorem dec_FOK {T : Tab} (hT : TGood Tryd.prog T) (l : List Int) (hl : OkL l) (Q : AOut → Prop) (hQ : Q (.ret (.tuple [.agg (msC (decM l).1), .int .i64 (decM l).2]))) :
    FOK Tryd.prog 20 [.slice (bsA l)] [] fun out Hs => Hs = [] ∧ Q out := by
  have hT2 : TGood Tryd.prog (Tdec T) := by
    have h1 := ext_good hT (s45 hT)
    have h2 := ext_good h1 (s47 h1)
    have h3 := ext_good h2 (s59 h2)
    exact ext_good h3 (s60 h3)
  refine ⟨entersOf Tryd.func20 (by kernel_rfl) rfl, fun Mx G w cargs hs ht => ?_⟩
  refine calls_of_wp_defers Tryd.func20 body20 ?_
  have hn : Tryd.f20.ntmps = 45 := rfl
  have htv : TV w (MM Mx G []) 0 G (cargs ++ Array.replicate (Tryd.f20.ntmps - cargs.size) undef) ([.slice (bsA l)] ++ List.replicate 44 (.tuple [])) := by
    have hc1 : cargs.size = 1 := ht.1
    refine ⟨by simp [hc1], fun i v x h1 h2 => ?_⟩
    by_cases hi : i < 1
    · rw [List.getElem?_append_left (by simpa using hi)] at h2
      rw [Array.getElem?_append_left (by omega)] at h1
      exact ht.2 i v x h1 h2
    · rw [List.getElem?_append_right (by simp; omega)] at h2
      rw [Array.getElem?_append_right (by omega)] at h1
      have e1 := (List.mem_replicate.1 (List.mem_of_getElem? h2)).2
      have e2 : v = undef := by
        have := Array.mem_of_getElem? h1
        exact (Array.mem_replicate.1 this).2
      subst e1; subst e2
      exact .tuple _ _ _ _ rfl (fun i v x h => by simp at h)
  refine wp_seq ?_
  refine acode_sound hT.ok hT.ang hT.mono mixedT 0 0 _ leD (K0d l) _ _ (d0_ok l T 0) Mx G w _ (Nat.le_refl _) hs htv _ (fun e e' a' H' G' w' act' g1 g2 g3 g4 g5 g6 => ?_)
  obtain ⟨e1, e2, e3⟩ := g6
  subst e1 e2 e3
  cases g5
  have g4' : act'.defers = [] := g4
  refine wp_seq ?_
  refine acode_sound hT.ok hT.ang hT.mono mixedT 2 0 _ leD (K1d l Q) _ _ (d1_ok l T 0 Q hQ) Mx G' w' act' (by simp [H0d]) g2 g3 _ (fun e e' a2 H2 G2 w2 act2 m1 m2 m3 m4 m5 m6 => ?_)
  have m4' : act2.defers = [] := m4.trans g4'
  have st2 : Step 0 Mx G [] w G2 H2 w2 := g1.trans (Nat.zero_le _) m1
  rcases m6 with ⟨e1, e2, e3, hbig⟩ | ⟨e1, hret⟩
  · subst e1 e2 e3
    cases m5
    obtain ⟨id, o1, o2, hr3, p1, p2, p3, q1, q2, q3⟩ := reg20
    rw [hr3]
    refine wp_seq (wp_region ?_)
    have hsz : act2.tmps.size = 45 := m3.1
    have hlt : 12 < act2.tmps.size := by omega
    simp [wpOps, Oper.wp, Oper.upon, go_sem, execOp, Act.put, Act.eval, Region.wanted, Deferred.ofValue, p1, p2, p3, q1, q2, q3, hlt, Sem.run_pure]
    refine .inl (.inl ?_)
    have t2 : act2.tmps[2]? = some act2.tmps[2] := Array.getElem?_eq_getElem (by omega)
    have t3 : act2.tmps[3]? = some act2.tmps[3] := Array.getElem?_eq_getElem (by omega)
    rw [t2, t3]
    simp only [Option.getD_some]
    have hv2 := m3.2 2 _ (.ptr 0 0) t2 rfl
    have hv3 := m3.2 3 _ (.ptr 1 0) t3 rfl
    generalize act2.tmps[2] = v2 at t2 hv2 ⊢
    generalize act2.tmps[3] = v3 at t3 hv3 ⊢
    have htA : TV w2 (MM Mx G2 H0d) H0d.length G2 (act2.tmps.setIfInBounds 12 (.func (.func 58) #[] #[v2, v3])) (A2d l) := by
      refine ⟨by rw [Array.size_setIfInBounds]; exact hsz, fun i v x e1 e2 => ?_⟩
      by_cases hi : i = 12
      · subst hi
        rw [Array.getElem?_setIfInBounds_self_of_lt hlt] at e1
        cases e1; cases e2
        refine .func _ _ _ _ _ _ _ rfl rfl (fun i v x e => by simp at e) fun i v x e1 e2 => ?_
        match i, e1, e2 with
        | 0, e1, e2 => cases e1; cases e2; exact hv2
        | 1, e1, e2 => cases e1; cases e2; exact hv3
        | i + 2, e1, e2 => simp at e2
      · rw [Array.getElem?_setIfInBounds_ne (by omega)] at e1
        refine m3.2 i v x e1 ?_
        have e12 : (A2d l) = (A1d l).set 12 (.func (.func 58) [] [.ptr 0 0, .ptr 1 0]) := rfl
        rw [e12, List.getElem?_set_ne (by omega)] at e2
        exact e2
    refine acode_sound hT2.ok hT2.ang hT2.mono mixedT 2 16 _ leD (K3d Q) _ _ (d3_ok l hl hbig T Q hQ 16 (by omega)) Mx G2 w2 _ (by simp [H0d]) m2 htA _ (fun e e' a3 H3 G3 w3 act3 r1 r2 r3 r4 r5 r6 => ?_)
    dsimp only at r4
    rw [m4'] at r4
    have st3 : Step 0 Mx G [] w G3 H3 w3 := st2.trans (Nat.zero_le _) r1
    have hinv : ∀ w, (invoke (.fn (.func 58) #[v2, v3]) #[]).run Tryd.prog w = .ok (.enter 58 #[v2, v3]) w := fun w => by
      simp only [invoke]
      exact entersOf Tryd.func58 (by kernel_rfl) rfl (#[] ++ #[v2, v3]) w
    have hfine : RetD Q a3 H3 → bodyPostD Tryd.prog Tryd.f20 (fun e w' => ∃ out H' G', Step 0 Mx G [] w G' H' w' ∧ Sim Mx G' H' w' ∧ ER w' (MM Mx G' H') H'.length G' e out ∧ H' = [] ∧ Q out) .normal act3 w3 := fun hret => by
      obtain ⟨v, hr, hR⟩ := dec_fin hs st3 r2 r3 r1.len.2 hret
      show Leaves Tryd.prog Tryd.f20 act3.tmps _ act3.defers .returning w3
      rw [r4]
      refine leaves_cons (by simp) (hinv w3) (callsD58i.mono fun e u' w' he => ?_)
      obtain ⟨⟨rr, rfl⟩, rfl, rfl⟩ := he
      exact ⟨v, hr, hR⟩
    cases r5 with
    | normal => exact hfine r6
    | ret => exact hfine r6
    | exit id => exact r6.elim
    | pan v x hx =>
      obtain ⟨cs, m, hag, hcs, hQ51⟩ := r6
      have hlen3 : 3 < a3.length := by
        rcases Nat.lt_or_ge 3 a3.length with h | h
        · exact h
        · have e3 : a3.getD 3 .any = .any := by rw [List.getD_eq_getElem?_getD, List.getElem?_eq_none h]; rfl
          rw [e3] at hag
          have := congrArg (fun p => p.1[2]?) hag
          simp [agc, keepOnly, renL, ren] at this
      have hsz3 := r3.1
      have u2 : act3.tmps[2]? = some act3.tmps[2] := Array.getElem?_eq_getElem (by omega)
      have u3 : act3.tmps[3]? = some act3.tmps[3] := Array.getElem?_eq_getElem (by omega)
      have g2 : a3[2]? = some (a3.getD 2 .any) := by rw [List.getD_eq_getElem?_getD, List.getElem?_eq_getElem (by omega)]; rfl
      have g3 : a3[3]? = some (a3.getD 3 .any) := by rw [List.getD_eq_getElem?_getD, List.getElem?_eq_getElem (by omega)]; rfl
      have htv3 : TV w3 (MM Mx G3 H3) H3.length G3 #[v, act3.tmps[2], act3.tmps[3]] [x, a3.getD 2 .any, a3.getD 3 .any] := ⟨rfl, fun i v x e1 e2 => by
        match i, e1, e2 with
        | 0, e1, e2 => cases e1; cases e2; exact hx
        | 1, e1, e2 => cases e1; cases e2; exact r3.2 2 _ _ u2 g2
        | 2, e1, e2 => cases e1; cases e2; exact r3.2 3 _ _ u3 g3
        | i + 3, e1, e2 => simp at e2⟩
      obtain ⟨G4, k1, k2, k3, k4⟩ := agc_sound [0, 1, 2] r1.len.2 r2 htv3
      rw [hag] at k1 k2 k3 k4
      dsimp only at k1 k2 k3 k4
      have hcl : cs.length = 23 := by have := congrArg List.length hcs; simpa [msC] using this
      obtain ⟨n1, n2⟩ := k1.revar (b := 0) (cs := cs) (cs' := msC m) rfl (by rw [← hcs, List.length_map]) (fun i v x y e1 e2 h1 h2 => by
        rw [← hcs, List.getElem?_map, e1] at e2
        cases e2
        refine rv_unz (fun k i v q1 q2 => ⟨q1, q2⟩) h2 (msC_plain m _ ?_)
        rw [← hcs]
        exact List.mem_map_of_mem (List.mem_of_getElem? e1))
      have n2' : Step 2 Mx G4 [.var cs, .var [.int .i64 0]] w3 G4 [.var (msC m), .var [.int .i64 0]] w3 := n2
      have s23 : Step 2 Mx G2 H0d w2 G4 [.var (msC m), .var [.int .i64 0]] w3 := (r1.trans (Nat.le_refl _) k3).trans (Nat.le_refl _) n2'
      have st4 : Step 0 Mx G [] w G4 [.var (msC m), .var [.int .i64 0]] w3 := st2.trans (Nat.zero_le _) s23
      have s23' : Step H0d.length Mx G2 H0d w2 G4 [.var (msC m), .var [.int .i64 0]] w3 := s23
      have hc2 := s23'.rv hv2
      have hc3 := s23'.rv hv3
      have hk : TV w3 (MM Mx G4 [.var (msC m), .var [.int .i64 0]]) 2 G4 #[v, act3.tmps[2], act3.tmps[3]] [eM, .ptr 0 0, .ptr 1 0] := Step.tv (H := [.var cs, .var [.int .i64 0]]) n2' k2
      show Leaves Tryd.prog Tryd.f20 act3.tmps _ act3.defers (.panicking [{ v, recovered := false }]) w3
      rw [r4]
      refine leaves_cons (by simp) (hinv w3) ((callsD58 n1 hc2 hc3 (hk.2 0 _ _ rfl rfl)).mono fun e u' w' he => ?_)
      obtain ⟨⟨rr, rfl⟩, hu, G5, z1, z2⟩ := he
      dsimp only
      rw [hu]
      have hz := Step.tv (H := [.var (msC m), .var [.int .i64 0]]) z1 hk
      have hfin := dec_fin (tmps := act3.tmps) (a := (List.range act3.tmps.size).map fun i => if i = 2 then .ptr 0 0 else if i = 3 then .ptr 1 0 else .any) (Q := Q) hs (st4.trans (Nat.zero_le _) z1) z2 ?_ (Nat.le_refl _) ⟨zC, 51, ?_, ⟨zM, rfl⟩, hQ51⟩
      · obtain ⟨v, hr, hR⟩ := hfin
        exact ⟨v, hr, hR⟩
      · refine ⟨by simp, fun i v x e1 e2 => ?_⟩
        simp only [List.getElem?_map, Option.map_eq_some_iff] at e2
        obtain ⟨j, hj, rfl⟩ := e2
        have hij := (List.getElem?_eq_some_iff.1 hj).2
        rw [List.getElem_range] at hij
        subst hij
        by_cases h2 : i = 2
        · subst h2
          rw [u2] at e1
          cases e1
          exact hz.2 1 _ _ rfl rfl
        · by_cases h3 : i = 3
          · subst h3
            rw [u3] at e1
            cases e1
            exact hz.2 2 _ _ rfl rfl
          · rw [if_neg h2, if_neg h3]; exact .any ..
      · have e2 : ((List.range act3.tmps.size).map fun i => if i = 2 then AV.ptr 0 0 else if i = 3 then .ptr 1 0 else .any).getD 2 .any = .ptr 0 0 := by
          simp only [List.getD_eq_getElem?_getD, List.getElem?_map]
          rw [List.getElem?_range (by omega)]
          rfl
        have e3 : ((List.range act3.tmps.size).map fun i => if i = 2 then AV.ptr 0 0 else if i = 3 then .ptr 1 0 else .any).getD 3 .any = .ptr 1 0 := by
          simp only [List.getD_eq_getElem?_getD, List.getElem?_map]
          rw [List.getElem?_range (by omega)]
          rfl
        rw [e2, e3]
        show agc 2 [0, 1] [.ptr 0 0, .ptr 1 0] [.var zC, .var [.int .i64 51]] = ([.ptr 0 0, .ptr 1 0], [.var zC, .var [.int .i64 51]])
        kernel_rfl
  · subst e1
    cases m5
    obtain ⟨v, hr, hR⟩ := dec_fin hs st2 m2 m3 m1.len.2 hret
    show Leaves Tryd.prog Tryd.f20 act2.tmps _ act2.defers .returning w2
    rw [m4']
    exact ⟨v, hr, hR⟩


theorem s20 {T : Tab} (hT : TGood Tryd.prog T) : SGood Tryd.prog 20 (pureT g20) := pureT_good g20_det (fun args Q hK => by
  unfold g20 at hK
  split at hK
  · obtain ⟨l, rfl, hl, hQ⟩ := hK
    exact dec_FOK hT l hl Q hQ
  · exact hK.elim)
end Go.Abs

/-
msgAlive holds.
-/
namespace Go.Abs
open Go Go.Proofs

def exM : MsV := { zM with kind := 11, slot := 4, from_ := 2 }
theorem exM_encE : encE exM = 0 := by kernel_rfl
theorem exM_encS : (encS exM 15).1 = [11, 4, 2] := by kernel_rfl
theorem exM_dec : decM [11, 4, 2] = (exM, 0) := by kernel_rfl
theorem exM_ok : OkM exM := ⟨okR_z, okR_z, okT_nil, okT_nil, okVL_nil, okVL_nil, by simp [exM, zM], ⟨by simp [exM, zM], fun _ h => by cases h⟩, ⟨by simp [exM, zM], fun _ h => by cases h⟩⟩
theorem exM_cM : cM exM ≤ 1073741824 := by decide
theorem ex_okB : okB [11, 4, 2] := by unfold okB; decide
theorem ex_l : OkL [11, 4, 2] := ⟨ex_okB, by decide⟩

def g14 : GSpec := fun args K => match args with
  | [] => K (.ret (.bool true))
  | _ => False
theorem g14_det (args : List AV) : Det (g14 args) := by
  unfold g14
  repeat' (first | exact Det.no | exact Det.at _ | refine Det.and ?_ | refine Det.ex fun _ => ?_ | refine Det.cond ?_ ?_ | split)

theorem g14_flat (args : List AV) (o : AOut) (h : g14 args (· = o)) : flatO o = true := by
  unfold g14 at h
  split at h
  · cases h; rfl
  · exact h.elim

def T14 (T : Tab) : Tab := ext (ext (ext T 16 (freshT g16)) 18 (flatT g18)) 20 (pureT g20)

set_option maxRecDepth 100000 in
set_option maxHeartbeats 4000000 in
theorem f14_ok (T : Tab) (Q : AOut → Prop) (hQ : Q (.ret (.bool true))) (N : Nat) :
    abody Tryd.prog (T14 T) 0 N Tryd.f14 [] [] fun out Hs => Q (frzO Hs out) := by
  conv => whnf
  refine ⟨exM, by kernel_rfl, exM_ok, exM_cM, ?_⟩
  unfold encK
  rw [exM_encE, exM_encS]
  conv => whnf
  refine ⟨[11, 4, 2], by kernel_rfl, ex_l, ?_⟩
  rw [exM_dec]
  conv => whnf
  refine ⟨[11, 4, 2], [11, 4, 2], by kernel_rfl, by kernel_rfl, ex_okB, ex_okB, ?_⟩
  conv => whnf
  refine Eq.mp ?_ hQ
  kernel_rfl

set_option maxRecDepth 100000 in
theorem s14 {T : Tab} (hT : TGood Tryd.prog T) : SGood Tryd.prog 14 (flatT g14) := flatT_good g14_det g14_flat fun args Q h => by
  unfold g14 at h
  split at h
  · have h1 := ext_good hT (s16 hT)
    have h2 := ext_good h1 (s18 h1)
    exact body_pure (ext_good h2 (s20 h2)) mixedT Tryd.func14 (entersOf Tryd.func14 (by kernel_rfl) rfl) 0 (f14_ok T Q h 0)
  · exact h.elim
end Go.Abs

/-
MsgNames holds.
-/
namespace Go.Abs
open Go Go.Proofs

set_option maxRecDepth 100000 in
set_option maxHeartbeats 8000000 in
theorem f3_ok (T : Tab) (Q : AOut → Prop) (hQ : Q (.ret (.bool true))) (N : Nat) :
    abody Tryd.prog (ext T 14 (flatT g14)) 0 (N + 14) Tryd.f3 [] [] fun out Hs => Q (frzO Hs out) := by
  conv => whnf
  refine ⟨rfl, of_decide_eq_true (by kernel_rfl), of_decide_eq_true (by kernel_rfl), [.int .i64 1], .int .i64 1, [], by kernel_rfl, rfl, ?_⟩
  conv => whnf
  refine ⟨rfl, of_decide_eq_true (by kernel_rfl), of_decide_eq_true (by kernel_rfl), [.int .i64 2], .int .i64 2, [], by kernel_rfl, rfl, ?_⟩
  conv => whnf
  refine ⟨rfl, of_decide_eq_true (by kernel_rfl), of_decide_eq_true (by kernel_rfl), [.int .i64 3], .int .i64 3, [], by kernel_rfl, rfl, ?_⟩
  conv => whnf
  refine ⟨rfl, of_decide_eq_true (by kernel_rfl), of_decide_eq_true (by kernel_rfl), [.int .i64 4], .int .i64 4, [], by kernel_rfl, rfl, ?_⟩
  conv => whnf
  refine ⟨rfl, of_decide_eq_true (by kernel_rfl), of_decide_eq_true (by kernel_rfl), [.int .i64 5], .int .i64 5, [], by kernel_rfl, rfl, ?_⟩
  conv => whnf
  refine ⟨rfl, of_decide_eq_true (by kernel_rfl), of_decide_eq_true (by kernel_rfl), [.int .i64 6], .int .i64 6, [], by kernel_rfl, rfl, ?_⟩
  conv => whnf
  refine ⟨rfl, of_decide_eq_true (by kernel_rfl), of_decide_eq_true (by kernel_rfl), [.int .i64 7], .int .i64 7, [], by kernel_rfl, rfl, ?_⟩
  conv => whnf
  refine ⟨rfl, of_decide_eq_true (by kernel_rfl), of_decide_eq_true (by kernel_rfl), [.int .i64 8], .int .i64 8, [], by kernel_rfl, rfl, ?_⟩
  conv => whnf
  refine ⟨rfl, of_decide_eq_true (by kernel_rfl), of_decide_eq_true (by kernel_rfl), [.int .i64 9], .int .i64 9, [], by kernel_rfl, rfl, ?_⟩
  conv => whnf
  refine ⟨rfl, of_decide_eq_true (by kernel_rfl), of_decide_eq_true (by kernel_rfl), [.int .i64 10], .int .i64 10, [], by kernel_rfl, rfl, ?_⟩
  conv => whnf
  refine ⟨rfl, of_decide_eq_true (by kernel_rfl), of_decide_eq_true (by kernel_rfl), [.int .i64 11], .int .i64 11, [], by kernel_rfl, rfl, ?_⟩
  conv => whnf
  refine ⟨rfl, of_decide_eq_true (by kernel_rfl), of_decide_eq_true (by kernel_rfl), [.int .i64 12], .int .i64 12, [], by kernel_rfl, rfl, ?_⟩
  conv => whnf
  refine ⟨rfl, of_decide_eq_true (by kernel_rfl), of_decide_eq_true (by kernel_rfl), [.int .i64 13], .int .i64 13, [], by kernel_rfl, rfl, ?_⟩
  conv => whnf
  refine ⟨rfl, of_decide_eq_true (by kernel_rfl), of_decide_eq_true (by kernel_rfl), [.int .i64 20], .int .i64 20, [], by kernel_rfl, rfl, ?_⟩
  conv => whnf
  refine ⟨rfl, of_decide_eq_true (by kernel_rfl), of_decide_eq_true (by kernel_rfl), [.int .i64 21], .int .i64 21, [], by kernel_rfl, rfl, ?_⟩
  conv => whnf
  refine ⟨rfl, of_decide_eq_true (by kernel_rfl), of_decide_eq_true (by kernel_rfl), [.int .i64 22], .int .i64 22, [], by kernel_rfl, rfl, ?_⟩
  conv => whnf
  refine ⟨rfl, of_decide_eq_true (by kernel_rfl), of_decide_eq_true (by kernel_rfl), [.int .i64 23], .int .i64 23, [], by kernel_rfl, rfl, ?_⟩
  conv => whnf
  refine ⟨rfl, of_decide_eq_true (by kernel_rfl), of_decide_eq_true (by kernel_rfl), [.int .i64 24], .int .i64 24, [], by kernel_rfl, rfl, ?_⟩
  conv => whnf
  refine ⟨rfl, of_decide_eq_true (by kernel_rfl), of_decide_eq_true (by kernel_rfl), [.int .i64 25], .int .i64 25, [], by kernel_rfl, rfl, ?_⟩
  conv => whnf
  refine Eq.mp ?_ hQ
  kernel_rfl

set_option maxRecDepth 100000 in
theorem s3 {T : Tab} (hT : TGood Tryd.prog T) : SGood Tryd.prog 3 (flatT g14) := flatT_good g14_det g14_flat fun args Q h => by
  unfold g14 at h
  split at h
  · exact body_pure (ext_good hT (s14 hT)) mixedT Tryd.func3 (entersOf Tryd.func3 (by kernel_rfl) rfl) 14 (f3_ok T Q h 0)
  · exact h.elim
end Go.Abs

