/-
An abstract machine over values as trees: functions that take what is written by value and hand it back longer.
-/
import Derived.Test.YtmainkiflkagjaaGreatDoorAbw9
import Derived.Test.YtmainkiflkagjaaGreatDoorAbw8
import Derived.Test.YtmainkiflkagjaaGreatDoorAbw12
namespace Go.Abs
open Go
variable {P : Program}

/-- Nothing written yet is a row without bytes. -/
theorem nil_out {f : FuncId} {args : List AV} {bad : Bool} {Q : AOut → Heap → Prop} (h : FOK P f (.agg [.row 0, .bool bad] :: args) [wrow []] Q) : FOK P f (.agg [.zslice, .bool bad] :: args) [] Q := by
  refine ⟨h.1, fun Mx G w cargs hs ht => ?_⟩
  obtain ⟨hsz, hrv⟩ := ht
  obtain ⟨cl⟩ := cargs
  cases cl with
  | nil => simp at hsz
  | cons c0 cr =>
    obtain ⟨cs, rfl, hcs, hc⟩ := (hrv 0 c0 _ rfl rfl).agg_inv
    obtain ⟨cl⟩ := cs
    match cl, hcs with
    | [u0, u1], _ =>
      obtain ⟨A, rfl⟩ := (hc 0 u0 .zslice rfl rfl).zslice_inv
      obtain rfl := (hc 1 u1 (.bool bad) rfl rfl).bool_inv
      obtain ⟨G', k1, k2, k3⟩ := row_push0 hs (wr := true) (e := 5) (sz := 1) (by decide) A
      refine (h.2 Mx G' w _ k1 ⟨hsz, fun i v x e1 e2 => ?_⟩).mono fun e w' ⟨out, H', G2, h1, h2, h3, h4⟩ => ⟨out, H', G2, k2.trans (by simp) h1, h2, h3, h4⟩
      cases i with
      | zero =>
        cases e1; cases e2
        refine .agg _ _ _ _ rfl fun i v x e1 e2 => ?_
        match i, e1, e2 with
        | 0, e1, e2 => cases e1; cases e2; exact k3
        | 1, e1, e2 => cases e1; cases e2; exact .bool ..
        | i + 2, e1, e2 => simp at e2
      | succ i => exact Step.rv k2 (hrv (i + 1) v x (by simpa using e1) (by simpa using e2))

def outT (g : WSpec) : Spec := fun args H Q => match args with
  | .agg [c0, .bool bad] :: rest => match c0 with
    | .row r => match (frzAs H rest).2[r]? with
      | some (.row true e sz es) => cond (Nat.beq e 5 && Nat.beq sz 1) (g (frzAs H rest).1 es bad fun _ l' bad' => Q (.ret (.agg [.row H.length, .bool bad'])) (((frzAs H rest).2.set r .dead) ++ [wrow l'])) False
      | _ => False
    | .zslice => g (frzAs H rest).1 [] bad fun _ l' bad' => Q (.ret (.agg [.row (H.length + 1), .bool bad'])) ((frzAs H rest).2 ++ [.dead, wrow l'])
    | _ => False
  | _ => False
def oOut (Q : AV → List (List AV) → Bool → Prop) : AOut → Heap → Prop := fun out Hs => ∃ v l' bad', out = .ret (.agg [.row 1, .bool bad']) ∧ Hs = [.dead, wrow l'] ∧ Q v l' bad'

theorem outT_good {f : FuncId} {g : WSpec} (hd : ∀ args l bad, WDet (g args l bad))
    (h : ∀ args l bad Q, g args l bad Q → FOK P f (.agg [.row 0, .bool bad] :: args) [wrow l] (oOut Q)) : SGood P f (outT g) where
  ok := fun args H Q hg => by
    unfold outT at hg
    split at hg
    case h_2 => exact hg.elim
    rename_i c0 bad rest
    have hlen : (frzAs H rest).2.length = H.length := frzAs_length rest H
    have hfr : ∀ x, FOK P f (x :: (frzAs H rest).1) (frzAs H rest).2 Q → FOK P f (x :: rest) H Q := fun x hx => by
      have := frz_rest (P := P) (f := f) (x := x) (args := rest) (ys := []) (H := H) (Q := Q) (by rw [List.append_nil]; exact hx)
      rwa [List.append_nil] at this
    split at hg
    · rename_i r
      split at hg
      case h_2 => exact hg.elim
      rename_i e sz es hr
      replace hg := cond_es hg
      obtain ⟨rfl, rfl, hg⟩ := hg
      have hrl : r < (frzAs H rest).2.length := (List.getElem?_eq_some_iff.1 hr).1
      refine hfr _ ?_
      have i0 : ([r] : List Nat).idxOf? r = some 0 := by simp [List.idxOf?, List.findIdx?_cons]
      refine sub_call (ids := [r]) (by simp) (fun x hx => by simp at hx; subst hx; assumption) ?_
      have e1 : renL (([r] : List Nat).idxOf? ·) (.agg [.row r, .bool bad] :: (frzAs H rest).1) = .agg [.row 0, .bool bad] :: (frzAs H rest).1 := by
        simp only [renL, renL_frzAs, ren, i0]
      have e2 : subH (frzAs H rest).2 [r] = [wrow es] := by
        simp only [subH, List.map_cons, List.map_nil, List.getD_eq_getElem?_getD, hr, Option.getD_some, renH, wrow]
      rw [e1, e2]
      refine (h _ _ _ _ hg).imp fun out Hs ⟨v, l', bad', h1, h3, h4⟩ => ?_
      subst h1; subst h3
      have b1 : backN (frzAs H rest).2.length [r] 2 1 = some H.length := by simp [backN, hlen]
      have e3 : outR (backN (frzAs H rest).2.length [r] 2) (.ret (.agg [.row 1, .bool bad'])) = .ret (.agg [.row H.length, .bool bad']) := by simp only [outR, ren, renL, b1]
      have e4 : mergeH (frzAs H rest).2 [r] [.dead, wrow l'] = ((frzAs H rest).2.set r .dead) ++ [wrow l'] := by
        unfold mergeH
        congr 1
        refine List.ext_getElem? fun i => ?_
        rw [List.getElem?_map, List.getElem?_zipIdx]
        by_cases hir : i = r
        · subst hir
          rw [List.getElem?_set_self hrl, List.getElem?_eq_getElem hrl]
          simp [renH]
        · rw [List.getElem?_set_ne (fun e => hir e.symm)]
          cases hi : (frzAs H rest).2[i]? with
          | none => rfl
          | some o => simp [show ¬ r = i from fun e => hir e.symm]
      simp only [List.length_cons, List.length_nil] at *
      rw [e3, e4]
      exact h4
    · refine hfr _ ?_
      refine sub_call (ids := []) List.nodup_nil (fun b hb => absurd hb List.not_mem_nil) ?_
      have e1 : renL (([] : List Nat).idxOf? ·) (.agg [.zslice, .bool bad] :: (frzAs H rest).1) = .agg [.zslice, .bool bad] :: (frzAs H rest).1 := by
        simp only [renL, renL_frzAs, ren]
      have e2 : subH (frzAs H rest).2 [] = [] := rfl
      rw [e1, e2]
      refine nil_out ((h _ _ _ _ hg).imp fun out Hs ⟨v, l', bad', h1, h3, h4⟩ => ?_)
      subst h1; subst h3
      have b1 : backN (frzAs H rest).2.length [] 2 1 = some (H.length + 1) := by simp [backN, hlen]
      have e3 : outR (backN (frzAs H rest).2.length [] 2) (.ret (.agg [.row 1, .bool bad'])) = .ret (.agg [.row (H.length + 1), .bool bad']) := by simp only [outR, ren, renL, b1]
      have e4 : mergeH (frzAs H rest).2 [] [.dead, wrow l'] = (frzAs H rest).2 ++ [.dead, wrow l'] := by
        rw [mergeH_nil]
        rfl
      simp only [List.length_cons, List.length_nil] at *
      rw [e3, e4]
      exact h4
    · exact hg.elim
  ang := fun args H K hg => by
    unfold outT at hg
    split at hg
    case h_2 => exact hg.elim
    split at hg
    · split at hg
      case h_2 => exact hg.elim
      rename_i r e sz es hr
      replace hg := cond_es hg
      obtain ⟨rfl, rfl, hg⟩ := hg
      obtain ⟨v, l, b2, h1, h2⟩ := (hd _ _ _).det _ hg
      refine ⟨_, _, ?_, h2⟩
      unfold outT
      simp only [hr]
      exact (hd _ _ _).mono _ _ (fun x y z hx => by obtain ⟨rfl, rfl, rfl⟩ := hx; exact ⟨rfl, rfl⟩) h1
    · obtain ⟨v, l, b2, h1, h2⟩ := (hd _ _ _).det _ hg
      refine ⟨_, _, ?_, h2⟩
      unfold outT
      exact (hd _ _ _).mono _ _ (fun x y z hx => by obtain ⟨rfl, rfl, rfl⟩ := hx; exact ⟨rfl, rfl⟩) h1
    · exact hg.elim
  mono := fun args H K K' hk hg => by
    unfold outT at hg ⊢
    split at hg
    case h_2 => exact hg.elim
    split at hg
    · split at hg
      case h_2 => exact hg.elim
      rename_i r e sz es hr
      replace hg := cond_es hg
      obtain ⟨rfl, rfl, hg⟩ := hg
      show cond true _ False
      exact (hd _ _ _).mono _ _ (fun x y z hx => hk _ _ hx) hg
    · exact (hd _ _ _).mono _ _ (fun x y z hx => hk _ _ hx) hg
    · exact hg.elim

theorem oend {Q : AV → List (List AV) → Bool → Prop} {l : List (List AV)} {b : Bool} (h : Q (.tuple []) l b) : oOut Q (.ret (.agg [.row 1, .bool b])) [.dead, wrow l] := ⟨_, _, _, rfl, rfl, h⟩

end Go.Abs

/-
catenaryref05.num, text, many, req are what they come to.
-/
namespace Go.Abs
open Go Go.Proofs

set_option maxRecDepth 100000 in
set_option maxHeartbeats 4000000 in
theorem f54_ok (n : Int) (m : List Int) (bad : Bool) (hl : (wNum n (m, bad)).1.length ≤ 1099511627776) (T : Tab) (Q : AOut → Heap → Prop)
    (hQ : Q (.ret (.agg [.row 1, .bool (wNum n (m, bad)).2])) [.dead, wrow (bsA (wNum n (m, bad)).1)]) (N : Nat) :
    abody Tryz.prog (ext T 136 (freshT g84)) 1 N Tryz.f121 [.agg [.row 0, .bool bad], .int .i64 n] [wrow (bsA m)] Q := by
  simp only [wNum] at hQ hl
  cases bad
  all_goals
    conv => whnf
    split
    · rename_i h1
      rw [h1] at hQ hl
      conv => whnf
      refine Exists.intro [3, 11] ?_
      conv => whnf
      refine ⟨fits_bs (by simp only [if_true, List.length_append] at hl; rw [bsA_length]; omega), ?_⟩
      conv => whnf
      repeat (refine ⟨by (conv => whnf); exact ⟨rfl, rfl⟩, ?_⟩; conv => whnf)
      simp only [if_true, bsA_append] at hQ
      refine Eq.mp ?_ hQ
      kernel_rfl
    · rename_i h1
      rw [h1] at hQ hl
      conv => whnf
      refine Exists.intro [3, 11] ?_
      conv => whnf
      refine ⟨fits_bs (l := []) (by simp only [Bool.false_eq_true, if_false, List.length_append, List.length_nil] at *; rw [bsA_length]; omega), ?_⟩
      conv => whnf
      repeat (refine ⟨by (conv => whnf); exact ⟨rfl, rfl⟩, ?_⟩; conv => whnf)
      simp only [Bool.false_eq_true, if_false, bsA_append] at hQ
      refine Eq.mp ?_ hQ
      kernel_rfl

set_option maxRecDepth 100000 in
theorem s54 {T : Tab} (hT : TGood Tryz.prog T) : SGood Tryz.prog 121 (outT g46) := outT_good g46_det fun args l bad Q h => by
  unfold g46 at h
  split at h
  · obtain ⟨m, rfl, hl, hQ⟩ := h
    have h2 := ext_good hT (s95 hT)
    exact abody_sound h2.ok h2.ang h2.mono mixedT Tryz.func121 (entersOf Tryz.func121 (by kernel_rfl) rfl) (f54_ok _ m bad hl T _ (oend hQ) 0)
  · exact h.elim

set_option maxRecDepth 100000 in
set_option maxHeartbeats 4000000 in
theorem f97_ok (p : List Int) (hp : p.length ≤ 2147483647) (m : List Int) (bad : Bool) (hl : (wText p (m, bad)).1.length ≤ 1099511627776) (T : Tab) (Q : AOut → Heap → Prop)
    (hQ : Q (.ret (.agg [.row 1, .bool (wText p (m, bad)).2])) [.dead, wrow (bsA (wText p (m, bad)).1)]) (N : Nat) :
    abody Tryz.prog (ext T 81 (freshT g64)) 1 N Tryz.f156 [.agg [.row 0, .bool bad], .slice (bsA p)] [wrow (bsA m)] Q := by
  simp only [wText] at hQ hl
  simp only [List.length_append] at hl
  have hlen : ((bsA p).length : Int) = (p.length : Int) := by rw [bsA_length]
  cases bad
  all_goals
    conv => whnf
    refine Exists.intro [3, 4, 13] ?_
    conv => whnf
    refine ⟨p, rfl, hp, ?_⟩
    conv => whnf
    repeat (refine ⟨by (conv => whnf); exact ⟨rfl, rfl⟩, ?_⟩; conv => whnf)
    refine ⟨fits_bs (by rw [bsA_length]; omega), ?_⟩
    conv => whnf
    repeat (refine ⟨by (conv => whnf); exact ⟨rfl, rfl⟩, ?_⟩; conv => whnf)
    simp only [bsA_append] at hQ
    try rw [← hlen] at hQ
    refine Eq.mp ?_ hQ
    kernel_rfl

set_option maxRecDepth 100000 in
theorem s97 {T : Tab} (hT : TGood Tryz.prog T) : SGood Tryz.prog 156 (outT g88) := outT_good g88_det fun args l bad Q h => by
  unfold g88 at h
  split at h
  · obtain ⟨p, rfl, hp, m, rfl, hl, hQ⟩ := h
    have h2 := ext_good hT (s64 hT)
    exact abody_sound h2.ok h2.ang h2.mono mixedT Tryz.func156 (entersOf Tryz.func156 (by kernel_rfl) rfl) (f97_ok _ hp m bad hl T _ (oend hQ) 0)
  · exact h.elim

def oMany (n : Int) (s : WS) : WS := ((wNum n s).1, (wNum n s).2 || decide (n > 64))
def g99 : WSpec := fun args l bad K => match args with
  | [.int .i64 n] => wspec (oMany n) l bad K
  | _ => False
theorem g99_det (args : List AV) (l : List (List AV)) (bad : Bool) : WDet (g99 args l bad) := by
  unfold g99
  split
  · exact wspec_det _ _ _
  · exact WDet.no

set_option maxRecDepth 100000 in
set_option maxHeartbeats 4000000 in
theorem f99_ok (n : Int) (m : List Int) (bad : Bool) (hl : (oMany n (m, bad)).1.length ≤ 1099511627776) (T : Tab) (Q : AOut → Heap → Prop)
    (hQ : Q (.ret (.agg [.row 1, .bool (oMany n (m, bad)).2])) [.dead, wrow (bsA (oMany n (m, bad)).1)]) (N : Nat) :
    abody Tryz.prog (ext T 121 (outT g46)) 1 N Tryz.f158 [.agg [.row 0, .bool bad], .int .i64 n] [wrow (bsA m)] Q := by
  simp only [oMany] at hQ hl
  conv => whnf
  refine ⟨m, rfl, hl, ?_⟩
  cases hb : (wNum n (m, bad)).2
  all_goals
    rw [hb] at hQ
    conv => whnf
    refine Eq.mp ?_ hQ
    kernel_rfl

set_option maxRecDepth 100000 in
theorem s99 {T : Tab} (hT : TGood Tryz.prog T) : SGood Tryz.prog 158 (outT g99) := outT_good g99_det fun args l bad Q h => by
  unfold g99 at h
  split at h
  · obtain ⟨m, rfl, hl, hQ⟩ := h
    have h2 := ext_good hT (s54 hT)
    exact abody_sound h2.ok h2.ang h2.mono mixedT Tryz.func158 (entersOf Tryz.func158 (by kernel_rfl) rfl) (f99_ok _ m bad hl T _ (oend hQ) 0)
  · exact h.elim

set_option maxRecDepth 100000 in
set_option maxHeartbeats 4000000 in
theorem f96_ok (r : RqV) (hr : okR r) (m : List Int) (bad : Bool) (hl : (wReq r (m, bad)).1.length ≤ 1099511627776) (T : Tab) (Q : AOut → Heap → Prop)
    (hQ : Q (.ret (.agg [.row 1, .bool (wReq r (m, bad)).2])) [.dead, wrow (bsA (wReq r (m, bad)).1)]) (N : Nat) :
    abody Tryz.prog (ext (ext T 121 (outT g46)) 156 (outT g88)) 1 N Tryz.f155 [.agg [.row 0, .bool bad], .agg (rqC r)] [wrow (bsA m)] Q := by
  have l3 := Nat.le_trans (wText_le r.sig (wText r.op (wNum r.stamp (wNum r.client (m, bad))))) hl
  have l2 := Nat.le_trans (wText_le r.op (wNum r.stamp (wNum r.client (m, bad)))) l3
  have l1 := Nat.le_trans (wNum_le r.stamp (wNum r.client (m, bad))) l2
  conv => whnf
  refine Exists.intro [3, 6, 9, 12, 13] ?_
  conv => whnf
  refine ⟨m, rfl, l1, ?_⟩
  conv => whnf
  repeat (refine ⟨by (conv => whnf); exact ⟨rfl, rfl⟩, ?_⟩; conv => whnf)
  refine ⟨_, rfl, l2, ?_⟩
  conv => whnf
  repeat (refine ⟨by (conv => whnf); exact ⟨rfl, rfl⟩, ?_⟩; conv => whnf)
  refine ⟨r.op, rfl, hr.1.2, _, rfl, l3, ?_⟩
  conv => whnf
  repeat (refine ⟨by (conv => whnf); exact ⟨rfl, rfl⟩, ?_⟩; conv => whnf)
  refine ⟨r.sig, rfl, hr.2.2, _, rfl, hl, ?_⟩
  conv => whnf
  repeat (refine ⟨by (conv => whnf); exact ⟨rfl, rfl⟩, ?_⟩; conv => whnf)
  refine Eq.mp ?_ hQ
  kernel_rfl

set_option maxRecDepth 100000 in
theorem s96 {T : Tab} (hT : TGood Tryz.prog T) : SGood Tryz.prog 155 (outT g87) := outT_good g87_det fun args l bad Q h => by
  unfold g87 at h
  split at h
  · obtain ⟨r, rfl, hr, m, rfl, hl, hQ⟩ := h
    have h1 := ext_good hT (s54 hT)
    have h2 := ext_good h1 (s97 h1)
    exact abody_sound h2.ok h2.ang h2.mono mixedT Tryz.func155 (entersOf Tryz.func155 (by kernel_rfl) rfl) (f96_ok r hr m bad hl T _ (oend hQ) 0)
  · exact h.elim
end Go.Abs

/-
catenaryref05.votes is what it comes to.
-/
namespace Go.Abs
open Go Go.Proofs

theorem oMany_le (n : Int) (s : WS) : s.1.length ≤ (oMany n s).1.length := wNum_le n s
def oSeq {α : Type} (e : α → WS → WS) (vs : List α) (s : WS) : WS := wSeq (vs.map e) (oMany vs.length s)
theorem oSeq_le {α : Type} (e : α → WS → WS) (he : ∀ v s, s.1.length ≤ (e v s).1.length) (vs : List α) (s : WS) : s.1.length ≤ (oSeq e vs s).1.length :=
  Nat.le_trans (oMany_le _ s) (wSeq_le _ (fun f hf s => by
    obtain ⟨v, _, rfl⟩ := List.mem_map.1 hf
    exact he v s) _)
theorem oSeq_many {α : Type} (e : α → WS → WS) (he : ∀ v s, s.1.length ≤ (e v s).1.length) (vs : List α) (s : WS) : (oMany vs.length s).1.length ≤ (oSeq e vs s).1.length :=
  wSeq_le _ (fun f hf s => by
    obtain ⟨v, _, rfl⟩ := List.mem_map.1 hf
    exact he v s) _
def oVotes (vs : List VtV) (s : WS) : WS := oSeq wVote vs s
theorem oVotes_le (vs : List VtV) (s : WS) : s.1.length ≤ (oVotes vs s).1.length := oSeq_le wVote wVote_le vs s

def g98 : WSpec := fun args l bad K => match args with
  | [.slice es] => ∃ vs : List VtV, es = vtCL vs ∧ okVL vs ∧ wspec (oVotes vs) l bad K
  | _ => False
theorem g98_det (args : List AV) (l : List (List AV)) (bad : Bool) : WDet (g98 args l bad) := by
  unfold g98
  split
  · exact WDet.ex fun _ => WDet.and (WDet.and (wspec_det _ _ _))
  · exact WDet.no

set_option maxRecDepth 100000 in
set_option maxHeartbeats 4000000 in
theorem f98_ok (vs : List VtV) (hv : okVL vs) (m : List Int) (bad : Bool) (hl : (oVotes vs (m, bad)).1.length ≤ 1099511627776) (T : Tab) (Q : AOut → Heap → Prop)
    (hQ : Q (.ret (.agg [.row 1, .bool (oVotes vs (m, bad)).2])) [.dead, wrow (bsA (oVotes vs (m, bad)).1)]) (N : Nat) (hN : vs.length < N) :
    abody Tryz.prog (ext (ext (ext T 121 (outT g46)) 156 (outT g88)) 158 (outT g99)) 1 N Tryz.f157 [.agg [.row 0, .bool bad], .slice (vtCL vs)] [wrow (bsA m)] Q := by
  have hlen : (vtCL vs).length = vs.length := by simp [vtCL]
  have hvl := hv.1
  have hlenI : (((vtCL vs).length : Nat) : Int) = (vs.length : Int) := by rw [hlen]
  have hm1 := Nat.le_trans (oSeq_many wVote wVote_le vs (m, bad)) hl
  conv => whnf
  rw [hlenI]
  refine ⟨m, rfl, hm1, ?_⟩
  conv => whnf
  refine aloop_at ?_ ?_ (aloop_inv (σ := Nat) (fun i => ((sp 0 26 [(2, .ptr 1 0), (4, .ptr 3 0), (11, .slice (vtCL vs)), (12, .int .i64 ((vtCL vs).length : Nat)), (13, .int .i64 (i : Nat))]), [.dead, .var [.row 2, .bool (wSeq ((vs.take i).map wVote) (oMany vs.length (m, bad))).2], wrow (bsA (wSeq ((vs.take i).map wVote) (oMany vs.length (m, bad))).1), .var [.zslice, .bool false]]))
    (fun i => i ≤ vs.length) (fun i => vs.length - i) ?_ N 0 (Nat.zero_le _) (by omega))
  · kernel_rfl
  · kernel_rfl
  intro i hi R hR
  conv => whnf
  split
  rotate_left
  · rename_i h2; have h2 : ¬ (i : Int) < (vtCL vs).length := of_decide_eq_false h2
    rw [hlen] at h2
    unfold oVotes oSeq at hQ
    rw [show vs.map wVote = (vs.take i).map wVote by rw [List.take_of_length_le (by omega)]] at hQ
    refine Eq.mp ?_ hQ
    kernel_rfl
  rename_i h2; have h2 : (i : Int) < (vtCL vs).length := of_decide_eq_true h2
  rw [hlen] at h2
  obtain ⟨v, hx⟩ : ∃ v, vs[i]? = some v := ⟨vs[i]'(by omega), List.getElem?_eq_getElem (by omega)⟩
  have hxa : (vtCL vs)[i]? = some (vtC v) := by simp [vtCL, hx]
  have hokv := hv.2 v (List.mem_of_getElem? hx)
  have hstep := wSeq_take vs wVote i v hx (oMany vs.length (m, bad))
  have hle : (wVote v (wSeq ((vs.take i).map wVote) (oMany vs.length (m, bad)))).1.length ≤ 1099511627776 := by
    rw [← hstep]
    exact Nat.le_trans (wSeq_take_le vs wVote wVote_le (i + 1) _) hl
  have hle1 := Nat.le_trans (wText_le v.sig (wNum v.signer (wSeq ((vs.take i).map wVote) (oMany vs.length (m, bad))))) hle
  have hi1 : IntKind.i64.wrap ((i : Int) + 1) = ((i + 1 : Nat) : Int) := by rw [IntWalk.i64_in _ (by omega)]; omega
  conv => whnf
  refine ⟨by omega, by rw [hlen]; omega, _, hxa, by kernel_rfl, ?_⟩
  conv => whnf
  refine Exists.intro [3, 6, 7] ?_
  conv => whnf
  refine ⟨_, rfl, hle1, ?_⟩
  conv => whnf
  repeat (refine ⟨by (conv => whnf); exact ⟨rfl, rfl⟩, ?_⟩; conv => whnf)
  refine ⟨v.sig, rfl, hokv.2, _, rfl, hle, ?_⟩
  conv => whnf
  repeat (refine ⟨by (conv => whnf); exact ⟨rfl, rfl⟩, ?_⟩; conv => whnf)
  refine R_at ?_ ?_ (hR (i + 1) (by omega) (by omega))
  · rw [← hi1]; kernel_rfl
  · rw [hstep]; kernel_rfl

set_option maxRecDepth 100000 in
theorem s98 {T : Tab} (hT : TGood Tryz.prog T) : SGood Tryz.prog 157 (outT g98) := outT_good g98_det fun args l bad Q h => by
  unfold g98 at h
  split at h
  · obtain ⟨vs, rfl, hv, m, rfl, hl, hQ⟩ := h
    have h1 := ext_good hT (s54 hT)
    have h2 := ext_good h1 (s97 h1)
    have h3 := ext_good h2 (s99 h2)
    exact abody_sound h3.ok h3.ang h3.mono mixedT Tryz.func157 (entersOf Tryz.func157 (by kernel_rfl) rfl) (f98_ok vs hv m bad hl T _ (oend hQ) _ (Nat.lt_succ_self _))
  · exact h.elim
end Go.Abs

/-
catenaryref05.Report is what it comes to.
-/
namespace Go.Abs
open Go Go.Proofs

def oPrep (p : PrV) (s : WS) : WS := oVotes p.cert (wReq p.req (wNum p.bal.turn (wNum p.bal.view (wNum p.slot s))))
theorem oPrep_le (p : PrV) (s : WS) : s.1.length ≤ (oPrep p s).1.length := Nat.le_trans (wNum_le _ _) (Nat.le_trans (wNum_le _ _) (Nat.le_trans (wNum_le _ _) (Nat.le_trans (wReq_le _ _) (oVotes_le _ _))))
def oReport (r : RpV) (s : WS) : WS := wText r.sig (oSeq oPrep r.preps (oVotes r.stable (wText r.digest (wNum r.low (wNum r.replica (wBal r.bal s))))))
theorem oReport_le (r : RpV) (s : WS) : s.1.length ≤ (oReport r s).1.length :=
  Nat.le_trans (wBal_le _ _) (Nat.le_trans (wNum_le _ _) (Nat.le_trans (wNum_le _ _) (Nat.le_trans (wText_le _ _) (Nat.le_trans (oVotes_le _ _) (Nat.le_trans (oSeq_le _ oPrep_le _ _) (wText_le _ _))))))

def g100 : WSpec := fun args l bad K => match args with
  | [.agg cs] => ∃ r : RpV, cs = rpC r ∧ okRp r ∧ wspec (oReport r) l bad K
  | _ => False
theorem g100_det (args : List AV) (l : List (List AV)) (bad : Bool) : WDet (g100 args l bad) := by
  unfold g100
  split
  · exact WDet.ex fun _ => WDet.and (WDet.and (wspec_det _ _ _))
  · exact WDet.no

set_option maxRecDepth 100000 in
set_option maxHeartbeats 8000000 in
theorem f100_ok (r : RpV) (hr : okRp r) (m : List Int) (bad : Bool) (hl : (oReport r (m, bad)).1.length ≤ 1099511627776) (T : Tab) (Q : AOut → Heap → Prop)
    (hQ : Q (.ret (.agg [.row 1, .bool (oReport r (m, bad)).2])) [.dead, wrow (bsA (oReport r (m, bad)).1)]) (N : Nat) (hN : r.preps.length < N) :
    abody Tryz.prog (ext (ext (ext (ext (ext T 121 (outT g46)) 155 (outT g87)) 156 (outT g88)) 157 (outT g98)) 158 (outT g99)) 1 N Tryz.f159 [.agg [.row 0, .bool bad], .agg (rpC r)] [wrow (bsA m)] Q := by
  have hlen : (prCL r.preps).length = r.preps.length := by simp [prCL]
  have hpl := hr.2.2.1.1
  have hlenI : (((prCL r.preps).length : Nat) : Int) = (r.preps.length : Int) := by rw [hlen]
  have l7 := Nat.le_trans (wText_le r.sig (oSeq oPrep r.preps (oVotes r.stable (wText r.digest (wNum r.low (wNum r.replica (wBal r.bal (m, bad)))))))) hl
  have l6 := Nat.le_trans (oSeq_many oPrep oPrep_le r.preps (oVotes r.stable (wText r.digest (wNum r.low (wNum r.replica (wBal r.bal (m, bad))))))) l7
  have l5 := Nat.le_trans (oMany_le r.preps.length (oVotes r.stable (wText r.digest (wNum r.low (wNum r.replica (wBal r.bal (m, bad))))))) l6
  have l4 := Nat.le_trans (oVotes_le r.stable (wText r.digest (wNum r.low (wNum r.replica (wBal r.bal (m, bad)))))) l5
  have l3 := Nat.le_trans (wText_le r.digest (wNum r.low (wNum r.replica (wBal r.bal (m, bad))))) l4
  have l2 := Nat.le_trans (wNum_le r.low (wNum r.replica (wBal r.bal (m, bad)))) l3
  have l1 := Nat.le_trans (wNum_le r.replica (wBal r.bal (m, bad))) l2
  have l0 : (wNum r.bal.view (m, bad)).1.length ≤ 1099511627776 := Nat.le_trans (wNum_le r.bal.turn (wNum r.bal.view (m, bad))) l1
  conv => whnf
  refine Exists.intro [4, 8, 11, 14, 15] ?_
  conv => whnf
  refine ⟨m, rfl, l0, ?_⟩
  conv => whnf
  repeat (refine ⟨by (conv => whnf); exact ⟨rfl, rfl⟩, ?_⟩; conv => whnf)
  refine ⟨_, rfl, l1, ?_⟩
  conv => whnf
  repeat (refine ⟨by (conv => whnf); exact ⟨rfl, rfl⟩, ?_⟩; conv => whnf)
  refine ⟨_, rfl, l2, ?_⟩
  conv => whnf
  repeat (refine ⟨by (conv => whnf); exact ⟨rfl, rfl⟩, ?_⟩; conv => whnf)
  refine ⟨_, rfl, l3, ?_⟩
  conv => whnf
  repeat (refine ⟨by (conv => whnf); exact ⟨rfl, rfl⟩, ?_⟩; conv => whnf)
  refine Exists.intro [3, 6, 7] ?_
  conv => whnf
  refine ⟨r.digest, rfl, hr.1.2, _, rfl, l4, ?_⟩
  conv => whnf
  repeat (refine ⟨by (conv => whnf); exact ⟨rfl, rfl⟩, ?_⟩; conv => whnf)
  refine ⟨r.stable, rfl, hr.2.1, _, rfl, l5, ?_⟩
  conv => whnf
  repeat (refine ⟨by (conv => whnf); exact ⟨rfl, rfl⟩, ?_⟩; conv => whnf)
  rw [hlenI]
  refine ⟨_, rfl, l6, ?_⟩
  conv => whnf
  repeat (refine ⟨by (conv => whnf); exact ⟨rfl, rfl⟩, ?_⟩; conv => whnf)
  refine aloop_at ?_ ?_ (aloop_inv (σ := Nat) (fun i => ((sp 0 65 [(2, .ptr 1 0), (3, .ptr 3 0), (4, .ptr 4 0), (35, .slice (prCL r.preps)), (36, .int .i64 ((prCL r.preps).length : Nat)), (37, .int .i64 (i : Nat))]), [.dead, .var [.row 2, .bool (wSeq ((r.preps.take i).map oPrep) (oMany r.preps.length (oVotes r.stable (wText r.digest (wNum r.low (wNum r.replica (wBal r.bal (m, bad)))))))).2], wrow (bsA (wSeq ((r.preps.take i).map oPrep) (oMany r.preps.length (oVotes r.stable (wText r.digest (wNum r.low (wNum r.replica (wBal r.bal (m, bad)))))))).1), .var (rpC r), .var [.zslice, .bool false]]))
    (fun i => i ≤ r.preps.length) (fun i => r.preps.length - i) ?_ N 0 (Nat.zero_le _) (by omega))
  · kernel_rfl
  · kernel_rfl
  intro i hi R hR
  conv => whnf
  split
  rotate_left
  · rename_i h2; have h2 : ¬ (i : Int) < (prCL r.preps).length := of_decide_eq_false h2
    rw [hlen] at h2
    have hall : (r.preps.take i).map oPrep = r.preps.map oPrep := by rw [List.take_of_length_le (by omega)]
    conv => whnf
    rw [hall]
    refine ⟨r.sig, rfl, hr.2.2.2.2, _, rfl, hl, ?_⟩
    conv => whnf
    refine Eq.mp ?_ hQ
    kernel_rfl
  rename_i h2; have h2 : (i : Int) < (prCL r.preps).length := of_decide_eq_true h2
  rw [hlen] at h2
  obtain ⟨v, hx⟩ : ∃ v, r.preps[i]? = some v := ⟨r.preps[i]'(by omega), List.getElem?_eq_getElem (by omega)⟩
  have hxa : (prCL r.preps)[i]? = some (prC v) := by simp [prCL, hx]
  have hokv := hr.2.2.1.2 v (List.mem_of_getElem? hx)
  have hstep := wSeq_take r.preps oPrep i v hx (oMany r.preps.length (oVotes r.stable (wText r.digest (wNum r.low (wNum r.replica (wBal r.bal (m, bad)))))))
  generalize hS : wSeq ((r.preps.take i).map oPrep) (oMany r.preps.length (oVotes r.stable (wText r.digest (wNum r.low (wNum r.replica (wBal r.bal (m, bad))))))) = S at hstep
  have hle : (oPrep v S).1.length ≤ 1099511627776 := by
    rw [← hstep]
    exact Nat.le_trans (wSeq_take_le r.preps oPrep oPrep_le (i + 1) _) l7
  have k4 : (wReq v.req (wNum v.bal.turn (wNum v.bal.view (wNum v.slot S)))).1.length ≤ 1099511627776 := Nat.le_trans (oVotes_le v.cert _) hle
  have k3 := Nat.le_trans (wReq_le v.req (wNum v.bal.turn (wNum v.bal.view (wNum v.slot S)))) k4
  have k2 := Nat.le_trans (wNum_le v.bal.turn (wNum v.bal.view (wNum v.slot S))) k3
  have k1 := Nat.le_trans (wNum_le v.bal.view (wNum v.slot S)) k2
  have hi1 : IntKind.i64.wrap ((i : Int) + 1) = ((i + 1 : Nat) : Int) := by rw [IntWalk.i64_in _ (by omega)]; omega
  conv => whnf
  refine ⟨by omega, by rw [hlen]; omega, _, hxa, by kernel_rfl, ?_⟩
  conv => whnf
  refine Exists.intro [3, 7, 11, 12] ?_
  conv => whnf
  refine ⟨_, rfl, k1, ?_⟩
  conv => whnf
  repeat (refine ⟨by (conv => whnf); exact ⟨rfl, rfl⟩, ?_⟩; conv => whnf)
  refine ⟨_, rfl, k2, ?_⟩
  conv => whnf
  repeat (refine ⟨by (conv => whnf); exact ⟨rfl, rfl⟩, ?_⟩; conv => whnf)
  refine ⟨_, rfl, k3, ?_⟩
  conv => whnf
  repeat (refine ⟨by (conv => whnf); exact ⟨rfl, rfl⟩, ?_⟩; conv => whnf)
  refine Exists.intro [3, 6, 7] ?_
  conv => whnf
  refine ⟨v.req, rfl, hokv.1, _, rfl, k4, ?_⟩
  conv => whnf
  repeat (refine ⟨by (conv => whnf); exact ⟨rfl, rfl⟩, ?_⟩; conv => whnf)
  refine ⟨v.cert, rfl, hokv.2, _, rfl, hle, ?_⟩
  conv => whnf
  repeat (refine ⟨by (conv => whnf); exact ⟨rfl, rfl⟩, ?_⟩; conv => whnf)
  refine R_at ?_ ?_ (hR (i + 1) (by omega) (by omega))
  · rw [← hi1]; kernel_rfl
  · rw [hstep]; kernel_rfl

set_option maxRecDepth 100000 in
theorem s100 {T : Tab} (hT : TGood Tryz.prog T) : SGood Tryz.prog 159 (outT g100) := outT_good g100_det fun args l bad Q h => by
  unfold g100 at h
  split at h
  · obtain ⟨r, rfl, hr, m, rfl, hl, hQ⟩ := h
    have h1 := ext_good hT (s54 hT)
    have h2 := ext_good h1 (s96 h1)
    have h3 := ext_good h2 (s97 h2)
    have h4 := ext_good h3 (s98 h3)
    have h5 := ext_good h4 (s99 h4)
    exact abody_sound h5.ok h5.ang h5.mono mixedT Tryz.func159 (entersOf Tryz.func159 (by kernel_rfl) rfl) (f100_ok r hr m bad hl T _ (oend hQ) _ (Nat.lt_succ_self _))
  · exact h.elim
end Go.Abs

/-
catenaryref05.field is what it comes to.
-/
namespace Go.Abs
open Go Go.Proofs

def oField (m : MsV) : Nat → WS → WS
  | 0 => wBal m.bal
  | 1 => wNum m.slot
  | 2 => wNum m.from_
  | 3 => wNum m.to
  | 4 => wNum m.index
  | 5 => wNum m.count
  | 6 => wReq m.req
  | 7 => wReq m.other
  | 8 => wText m.data
  | 9 => wText m.sig
  | 10 => oVotes m.cert
  | 11 => oVotes m.votes
  | 12 => oSeq wNum m.order
  | 13 => oSeq wReq m.picks
  | 14 => oSeq oReport m.reports
  | _ => id
theorem oField_le (m : MsV) (i : Nat) (s : WS) : s.1.length ≤ (oField m i s).1.length := by
  match i with
  | 0 => exact wBal_le _ _
  | 1 => exact wNum_le _ _
  | 2 => exact wNum_le _ _
  | 3 => exact wNum_le _ _
  | 4 => exact wNum_le _ _
  | 5 => exact wNum_le _ _
  | 6 => exact wReq_le _ _
  | 7 => exact wReq_le _ _
  | 8 => exact wText_le _ _
  | 9 => exact wText_le _ _
  | 10 => exact oVotes_le _ _
  | 11 => exact oVotes_le _ _
  | 12 => exact oSeq_le _ wNum_le _ _
  | 13 => exact oSeq_le _ wReq_le _ _
  | 14 => exact oSeq_le _ oReport_le _ _
  | i + 15 => exact Nat.le_refl _

def g55 : WSpec := fun args l bad K => match args with
  | [.agg cs, .int .i64 f] => ∃ (m : MsV) (i : Nat), cs = msC m ∧ OkM m ∧ i < 15 ∧ f = (i : Int) ∧ wspec (oField m i) l bad K
  | _ => False
theorem g55_det (args : List AV) (l : List (List AV)) (bad : Bool) : WDet (g55 args l bad) := by
  unfold g55
  split
  · exact WDet.ex fun _ => WDet.ex fun _ => WDet.and (WDet.and (WDet.and (WDet.and (wspec_det _ _ _))))
  · exact WDet.no

def T55 (T : Tab) : Tab := (ext (ext (ext (ext (ext (ext T 121 (outT g46)) 155 (outT g87)) 156 (outT g88)) 157 (outT g98)) 158 (outT g99)) 159 (outT g100))
theorem T55_good {T : Tab} (hT : TGood Tryz.prog T) : TGood Tryz.prog (T55 T) := by
  have h0 := ext_good hT (s54 hT)
  have h1 := ext_good h0 (s96 h0)
  have h2 := ext_good h1 (s97 h1)
  have h3 := ext_good h2 (s98 h2)
  have h4 := ext_good h3 (s99 h3)
  have h5 := ext_good h4 (s100 h4)
  exact h5

set_option maxRecDepth 100000 in
set_option maxHeartbeats 8000000 in
theorem f55_ok0 (m : MsV) (_hm : OkM m) (l : List Int) (bad : Bool) (hl : (oField m 0 (l, bad)).1.length ≤ 1099511627776) (T : Tab) (Q : AOut → Heap → Prop)
    (hQ : Q (.ret (.agg [.row 1, .bool (oField m 0 (l, bad)).2])) [.dead, wrow (bsA (oField m 0 (l, bad)).1)]) (N : Nat) :
    abody Tryz.prog (T55 T) 1 N Tryz.f122 [.agg [.row 0, .bool bad], .agg (msC m), .int .i64 0] [wrow (bsA l)] Q := by
  have l0 : (wNum m.bal.view (l, bad)).1.length ≤ 1099511627776 := Nat.le_trans (wNum_le m.bal.turn (wNum m.bal.view (l, bad))) hl
  conv => whnf
  refine Exists.intro [4, 8, 9] ?_
  conv => whnf
  refine ⟨l, rfl, l0, ?_⟩
  conv => whnf
  repeat (refine ⟨by (conv => whnf); exact ⟨rfl, rfl⟩, ?_⟩; conv => whnf)
  refine ⟨_, rfl, hl, ?_⟩
  conv => whnf
  repeat (refine ⟨by (conv => whnf); exact ⟨rfl, rfl⟩, ?_⟩; conv => whnf)
  refine Eq.mp ?_ hQ
  kernel_rfl

set_option maxRecDepth 100000 in
set_option maxHeartbeats 8000000 in
theorem f55_ok1 (m : MsV) (_hm : OkM m) (l : List Int) (bad : Bool) (hl : (oField m 1 (l, bad)).1.length ≤ 1099511627776) (T : Tab) (Q : AOut → Heap → Prop)
    (hQ : Q (.ret (.agg [.row 1, .bool (oField m 1 (l, bad)).2])) [.dead, wrow (bsA (oField m 1 (l, bad)).1)]) (N : Nat) :
    abody Tryz.prog (T55 T) 1 N Tryz.f122 [.agg [.row 0, .bool bad], .agg (msC m), .int .i64 1] [wrow (bsA l)] Q := by
  conv => whnf
  refine ⟨l, rfl, hl, ?_⟩
  conv => whnf
  refine Eq.mp ?_ hQ
  kernel_rfl

set_option maxRecDepth 100000 in
set_option maxHeartbeats 8000000 in
theorem f55_ok2 (m : MsV) (_hm : OkM m) (l : List Int) (bad : Bool) (hl : (oField m 2 (l, bad)).1.length ≤ 1099511627776) (T : Tab) (Q : AOut → Heap → Prop)
    (hQ : Q (.ret (.agg [.row 1, .bool (oField m 2 (l, bad)).2])) [.dead, wrow (bsA (oField m 2 (l, bad)).1)]) (N : Nat) :
    abody Tryz.prog (T55 T) 1 N Tryz.f122 [.agg [.row 0, .bool bad], .agg (msC m), .int .i64 2] [wrow (bsA l)] Q := by
  conv => whnf
  refine ⟨l, rfl, hl, ?_⟩
  conv => whnf
  refine Eq.mp ?_ hQ
  kernel_rfl

set_option maxRecDepth 100000 in
set_option maxHeartbeats 8000000 in
theorem f55_ok3 (m : MsV) (_hm : OkM m) (l : List Int) (bad : Bool) (hl : (oField m 3 (l, bad)).1.length ≤ 1099511627776) (T : Tab) (Q : AOut → Heap → Prop)
    (hQ : Q (.ret (.agg [.row 1, .bool (oField m 3 (l, bad)).2])) [.dead, wrow (bsA (oField m 3 (l, bad)).1)]) (N : Nat) :
    abody Tryz.prog (T55 T) 1 N Tryz.f122 [.agg [.row 0, .bool bad], .agg (msC m), .int .i64 3] [wrow (bsA l)] Q := by
  conv => whnf
  refine ⟨l, rfl, hl, ?_⟩
  conv => whnf
  refine Eq.mp ?_ hQ
  kernel_rfl

set_option maxRecDepth 100000 in
set_option maxHeartbeats 8000000 in
theorem f55_ok4 (m : MsV) (_hm : OkM m) (l : List Int) (bad : Bool) (hl : (oField m 4 (l, bad)).1.length ≤ 1099511627776) (T : Tab) (Q : AOut → Heap → Prop)
    (hQ : Q (.ret (.agg [.row 1, .bool (oField m 4 (l, bad)).2])) [.dead, wrow (bsA (oField m 4 (l, bad)).1)]) (N : Nat) :
    abody Tryz.prog (T55 T) 1 N Tryz.f122 [.agg [.row 0, .bool bad], .agg (msC m), .int .i64 4] [wrow (bsA l)] Q := by
  conv => whnf
  refine ⟨l, rfl, hl, ?_⟩
  conv => whnf
  refine Eq.mp ?_ hQ
  kernel_rfl

set_option maxRecDepth 100000 in
set_option maxHeartbeats 8000000 in
theorem f55_ok5 (m : MsV) (_hm : OkM m) (l : List Int) (bad : Bool) (hl : (oField m 5 (l, bad)).1.length ≤ 1099511627776) (T : Tab) (Q : AOut → Heap → Prop)
    (hQ : Q (.ret (.agg [.row 1, .bool (oField m 5 (l, bad)).2])) [.dead, wrow (bsA (oField m 5 (l, bad)).1)]) (N : Nat) :
    abody Tryz.prog (T55 T) 1 N Tryz.f122 [.agg [.row 0, .bool bad], .agg (msC m), .int .i64 5] [wrow (bsA l)] Q := by
  conv => whnf
  refine ⟨l, rfl, hl, ?_⟩
  conv => whnf
  refine Eq.mp ?_ hQ
  kernel_rfl

set_option maxRecDepth 100000 in
set_option maxHeartbeats 8000000 in
theorem f55_ok6 (m : MsV) (hm : OkM m) (l : List Int) (bad : Bool) (hl : (oField m 6 (l, bad)).1.length ≤ 1099511627776) (T : Tab) (Q : AOut → Heap → Prop)
    (hQ : Q (.ret (.agg [.row 1, .bool (oField m 6 (l, bad)).2])) [.dead, wrow (bsA (oField m 6 (l, bad)).1)]) (N : Nat) :
    abody Tryz.prog (T55 T) 1 N Tryz.f122 [.agg [.row 0, .bool bad], .agg (msC m), .int .i64 6] [wrow (bsA l)] Q := by
  conv => whnf
  refine ⟨m.req, rfl, hm.req, l, rfl, hl, ?_⟩
  conv => whnf
  refine Eq.mp ?_ hQ
  kernel_rfl

set_option maxRecDepth 100000 in
set_option maxHeartbeats 8000000 in
theorem f55_ok7 (m : MsV) (hm : OkM m) (l : List Int) (bad : Bool) (hl : (oField m 7 (l, bad)).1.length ≤ 1099511627776) (T : Tab) (Q : AOut → Heap → Prop)
    (hQ : Q (.ret (.agg [.row 1, .bool (oField m 7 (l, bad)).2])) [.dead, wrow (bsA (oField m 7 (l, bad)).1)]) (N : Nat) :
    abody Tryz.prog (T55 T) 1 N Tryz.f122 [.agg [.row 0, .bool bad], .agg (msC m), .int .i64 7] [wrow (bsA l)] Q := by
  conv => whnf
  refine ⟨m.other, rfl, hm.other, l, rfl, hl, ?_⟩
  conv => whnf
  refine Eq.mp ?_ hQ
  kernel_rfl

set_option maxRecDepth 100000 in
set_option maxHeartbeats 8000000 in
theorem f55_ok8 (m : MsV) (hm : OkM m) (l : List Int) (bad : Bool) (hl : (oField m 8 (l, bad)).1.length ≤ 1099511627776) (T : Tab) (Q : AOut → Heap → Prop)
    (hQ : Q (.ret (.agg [.row 1, .bool (oField m 8 (l, bad)).2])) [.dead, wrow (bsA (oField m 8 (l, bad)).1)]) (N : Nat) :
    abody Tryz.prog (T55 T) 1 N Tryz.f122 [.agg [.row 0, .bool bad], .agg (msC m), .int .i64 8] [wrow (bsA l)] Q := by
  conv => whnf
  refine ⟨m.data, rfl, hm.data.2, l, rfl, hl, ?_⟩
  conv => whnf
  refine Eq.mp ?_ hQ
  kernel_rfl

set_option maxRecDepth 100000 in
set_option maxHeartbeats 8000000 in
theorem f55_ok9 (m : MsV) (hm : OkM m) (l : List Int) (bad : Bool) (hl : (oField m 9 (l, bad)).1.length ≤ 1099511627776) (T : Tab) (Q : AOut → Heap → Prop)
    (hQ : Q (.ret (.agg [.row 1, .bool (oField m 9 (l, bad)).2])) [.dead, wrow (bsA (oField m 9 (l, bad)).1)]) (N : Nat) :
    abody Tryz.prog (T55 T) 1 N Tryz.f122 [.agg [.row 0, .bool bad], .agg (msC m), .int .i64 9] [wrow (bsA l)] Q := by
  conv => whnf
  refine ⟨m.sig, rfl, hm.sig.2, l, rfl, hl, ?_⟩
  conv => whnf
  refine Eq.mp ?_ hQ
  kernel_rfl

set_option maxRecDepth 100000 in
set_option maxHeartbeats 8000000 in
theorem f55_ok10 (m : MsV) (hm : OkM m) (l : List Int) (bad : Bool) (hl : (oField m 10 (l, bad)).1.length ≤ 1099511627776) (T : Tab) (Q : AOut → Heap → Prop)
    (hQ : Q (.ret (.agg [.row 1, .bool (oField m 10 (l, bad)).2])) [.dead, wrow (bsA (oField m 10 (l, bad)).1)]) (N : Nat) :
    abody Tryz.prog (T55 T) 1 N Tryz.f122 [.agg [.row 0, .bool bad], .agg (msC m), .int .i64 10] [wrow (bsA l)] Q := by
  conv => whnf
  refine ⟨m.cert, rfl, hm.cert, l, rfl, hl, ?_⟩
  conv => whnf
  refine Eq.mp ?_ hQ
  kernel_rfl

set_option maxRecDepth 100000 in
set_option maxHeartbeats 8000000 in
theorem f55_ok11 (m : MsV) (hm : OkM m) (l : List Int) (bad : Bool) (hl : (oField m 11 (l, bad)).1.length ≤ 1099511627776) (T : Tab) (Q : AOut → Heap → Prop)
    (hQ : Q (.ret (.agg [.row 1, .bool (oField m 11 (l, bad)).2])) [.dead, wrow (bsA (oField m 11 (l, bad)).1)]) (N : Nat) :
    abody Tryz.prog (T55 T) 1 N Tryz.f122 [.agg [.row 0, .bool bad], .agg (msC m), .int .i64 11] [wrow (bsA l)] Q := by
  conv => whnf
  refine ⟨m.votes, rfl, hm.votes, l, rfl, hl, ?_⟩
  conv => whnf
  refine Eq.mp ?_ hQ
  kernel_rfl

set_option maxRecDepth 100000 in
set_option maxHeartbeats 8000000 in
theorem f55_ok12 (m : MsV) (hm : OkM m) (l : List Int) (bad : Bool) (hl : (oField m 12 (l, bad)).1.length ≤ 1099511627776) (T : Tab) (Q : AOut → Heap → Prop)
    (hQ : Q (.ret (.agg [.row 1, .bool (oField m 12 (l, bad)).2])) [.dead, wrow (bsA (oField m 12 (l, bad)).1)]) (N : Nat) (hN : m.order.length < N) :
    abody Tryz.prog (T55 T) 1 N Tryz.f122 [.agg [.row 0, .bool bad], .agg (msC m), .int .i64 12] [wrow (bsA l)] Q := by
  have hlen : (inCL m.order).length = m.order.length := by simp [inCL]
  have hvl : m.order.length ≤ 1099511627776 := hm.order
  have hlenI : (((inCL m.order).length : Nat) : Int) = (m.order.length : Int) := by rw [hlen]
  have hm1 : (oMany m.order.length (l, bad)).1.length ≤ 1099511627776 := Nat.le_trans (oSeq_many wNum wNum_le m.order (l, bad)) hl
  conv => whnf
  rw [hlenI]
  refine ⟨l, rfl, hm1, ?_⟩
  conv => whnf
  refine aloop_at ?_ ?_ (aloop_inv (σ := Nat) (fun i => ((sp 0 146 [(3, .ptr 1 0), (6, .ptr 3 0), (99, .slice (inCL m.order)), (100, .int .i64 ((inCL m.order).length : Nat)), (101, .int .i64 (i : Nat))]), [.dead, .var [.row 2, .bool (wSeq ((m.order.take i).map wNum) (oMany m.order.length (l, bad))).2], wrow (bsA (wSeq ((m.order.take i).map wNum) (oMany m.order.length (l, bad))).1), .var [.zslice, .bool false]]))
    (fun i => i ≤ m.order.length) (fun i => m.order.length - i) ?_ N 0 (Nat.zero_le _) (by omega))
  · kernel_rfl
  · kernel_rfl
  intro i hi R hR
  conv => whnf
  split
  rotate_left
  · rename_i h2; have h2 : ¬ (i : Int) < (inCL m.order).length := of_decide_eq_false h2
    rw [hlen] at h2
    have hQ2 : Q (.ret (.agg [.row 1, .bool (wSeq (m.order.map wNum) (oMany m.order.length (l, bad))).2])) [.dead, wrow (bsA (wSeq (m.order.map wNum) (oMany m.order.length (l, bad))).1)] := hQ
    rw [show m.order.map wNum = (m.order.take i).map wNum by rw [List.take_of_length_le (by omega)]] at hQ2
    refine Eq.mp ?_ hQ2
    kernel_rfl
  rename_i h2; have h2 : (i : Int) < (inCL m.order).length := of_decide_eq_true h2
  rw [hlen] at h2
  obtain ⟨v, hx⟩ : ∃ v, m.order[i]? = some v := ⟨m.order[i]'(by omega), List.getElem?_eq_getElem (by omega)⟩
  have hxa : (inCL m.order)[i]? = some (inC v) := by simp [inCL, hx]
  have hstep := wSeq_take m.order wNum i v hx (oMany m.order.length (l, bad))
  have hle : (wNum v (wSeq ((m.order.take i).map wNum) (oMany m.order.length (l, bad)))).1.length ≤ 1099511627776 := by
    rw [← hstep]
    exact Nat.le_trans (wSeq_take_le m.order wNum wNum_le (i + 1) _) hl
  have hi1 : IntKind.i64.wrap ((i : Int) + 1) = ((i + 1 : Nat) : Int) := by rw [IntWalk.i64_in _ (by omega)]; omega
  conv => whnf
  refine ⟨by omega, by rw [hlen]; omega, _, hxa, by kernel_rfl, ?_⟩
  conv => whnf
  refine ⟨_, rfl, hle, ?_⟩
  conv => whnf
  refine R_at ?_ ?_ (hR (i + 1) (by omega) (by omega))
  · rw [← hi1]; kernel_rfl
  · rw [hstep]; kernel_rfl

set_option maxRecDepth 100000 in
set_option maxHeartbeats 8000000 in
theorem f55_ok13 (m : MsV) (hm : OkM m) (l : List Int) (bad : Bool) (hl : (oField m 13 (l, bad)).1.length ≤ 1099511627776) (T : Tab) (Q : AOut → Heap → Prop)
    (hQ : Q (.ret (.agg [.row 1, .bool (oField m 13 (l, bad)).2])) [.dead, wrow (bsA (oField m 13 (l, bad)).1)]) (N : Nat) (hN : m.picks.length < N) :
    abody Tryz.prog (T55 T) 1 N Tryz.f122 [.agg [.row 0, .bool bad], .agg (msC m), .int .i64 13] [wrow (bsA l)] Q := by
  have hlen : (rqCL m.picks).length = m.picks.length := by simp [rqCL]
  have hvl : m.picks.length ≤ 1099511627776 := hm.picks.1
  have hlenI : (((rqCL m.picks).length : Nat) : Int) = (m.picks.length : Int) := by rw [hlen]
  have hm1 : (oMany m.picks.length (l, bad)).1.length ≤ 1099511627776 := Nat.le_trans (oSeq_many wReq wReq_le m.picks (l, bad)) hl
  conv => whnf
  rw [hlenI]
  refine ⟨l, rfl, hm1, ?_⟩
  conv => whnf
  refine aloop_at ?_ ?_ (aloop_inv (σ := Nat) (fun i => ((sp 0 146 [(3, .ptr 1 0), (6, .ptr 3 0), (118, .slice (rqCL m.picks)), (119, .int .i64 ((rqCL m.picks).length : Nat)), (120, .int .i64 (i : Nat))]), [.dead, .var [.row 2, .bool (wSeq ((m.picks.take i).map wReq) (oMany m.picks.length (l, bad))).2], wrow (bsA (wSeq ((m.picks.take i).map wReq) (oMany m.picks.length (l, bad))).1), .var [.zslice, .bool false]]))
    (fun i => i ≤ m.picks.length) (fun i => m.picks.length - i) ?_ N 0 (Nat.zero_le _) (by omega))
  · kernel_rfl
  · kernel_rfl
  intro i hi R hR
  conv => whnf
  split
  rotate_left
  · rename_i h2; have h2 : ¬ (i : Int) < (rqCL m.picks).length := of_decide_eq_false h2
    rw [hlen] at h2
    have hQ2 : Q (.ret (.agg [.row 1, .bool (wSeq (m.picks.map wReq) (oMany m.picks.length (l, bad))).2])) [.dead, wrow (bsA (wSeq (m.picks.map wReq) (oMany m.picks.length (l, bad))).1)] := hQ
    rw [show m.picks.map wReq = (m.picks.take i).map wReq by rw [List.take_of_length_le (by omega)]] at hQ2
    refine Eq.mp ?_ hQ2
    kernel_rfl
  rename_i h2; have h2 : (i : Int) < (rqCL m.picks).length := of_decide_eq_true h2
  rw [hlen] at h2
  obtain ⟨v, hx⟩ : ∃ v, m.picks[i]? = some v := ⟨m.picks[i]'(by omega), List.getElem?_eq_getElem (by omega)⟩
  have hxa : (rqCL m.picks)[i]? = some (rqC v) := by simp [rqCL, hx]
  have hstep := wSeq_take m.picks wReq i v hx (oMany m.picks.length (l, bad))
  have hle : (wReq v (wSeq ((m.picks.take i).map wReq) (oMany m.picks.length (l, bad)))).1.length ≤ 1099511627776 := by
    rw [← hstep]
    exact Nat.le_trans (wSeq_take_le m.picks wReq wReq_le (i + 1) _) hl
  have hi1 : IntKind.i64.wrap ((i : Int) + 1) = ((i + 1 : Nat) : Int) := by rw [IntWalk.i64_in _ (by omega)]; omega
  conv => whnf
  refine ⟨by omega, by rw [hlen]; omega, _, hxa, by kernel_rfl, ?_⟩
  conv => whnf
  refine ⟨v, rfl, hm.picks.2 v (List.mem_of_getElem? hx), _, rfl, hle, ?_⟩
  conv => whnf
  refine R_at ?_ ?_ (hR (i + 1) (by omega) (by omega))
  · rw [← hi1]; kernel_rfl
  · rw [hstep]; kernel_rfl

set_option maxRecDepth 100000 in
set_option maxHeartbeats 8000000 in
theorem f55_ok14 (m : MsV) (hm : OkM m) (l : List Int) (bad : Bool) (hl : (oField m 14 (l, bad)).1.length ≤ 1099511627776) (T : Tab) (Q : AOut → Heap → Prop)
    (hQ : Q (.ret (.agg [.row 1, .bool (oField m 14 (l, bad)).2])) [.dead, wrow (bsA (oField m 14 (l, bad)).1)]) (N : Nat) (hN : m.reports.length < N) :
    abody Tryz.prog (T55 T) 1 N Tryz.f122 [.agg [.row 0, .bool bad], .agg (msC m), .int .i64 14] [wrow (bsA l)] Q := by
  have hlen : (rpCL m.reports).length = m.reports.length := by simp [rpCL]
  have hvl : m.reports.length ≤ 1099511627776 := hm.reports.1
  have hlenI : (((rpCL m.reports).length : Nat) : Int) = (m.reports.length : Int) := by rw [hlen]
  have hm1 : (oMany m.reports.length (l, bad)).1.length ≤ 1099511627776 := Nat.le_trans (oSeq_many oReport oReport_le m.reports (l, bad)) hl
  conv => whnf
  rw [hlenI]
  refine ⟨l, rfl, hm1, ?_⟩
  conv => whnf
  refine aloop_at ?_ ?_ (aloop_inv (σ := Nat) (fun i => ((sp 0 146 [(3, .ptr 1 0), (6, .ptr 3 0), (135, .slice (rpCL m.reports)), (136, .int .i64 ((rpCL m.reports).length : Nat)), (137, .int .i64 (i : Nat))]), [.dead, .var [.row 2, .bool (wSeq ((m.reports.take i).map oReport) (oMany m.reports.length (l, bad))).2], wrow (bsA (wSeq ((m.reports.take i).map oReport) (oMany m.reports.length (l, bad))).1), .var [.zslice, .bool false]]))
    (fun i => i ≤ m.reports.length) (fun i => m.reports.length - i) ?_ N 0 (Nat.zero_le _) (by omega))
  · kernel_rfl
  · kernel_rfl
  intro i hi R hR
  conv => whnf
  split
  rotate_left
  · rename_i h2; have h2 : ¬ (i : Int) < (rpCL m.reports).length := of_decide_eq_false h2
    rw [hlen] at h2
    have hQ2 : Q (.ret (.agg [.row 1, .bool (wSeq (m.reports.map oReport) (oMany m.reports.length (l, bad))).2])) [.dead, wrow (bsA (wSeq (m.reports.map oReport) (oMany m.reports.length (l, bad))).1)] := hQ
    rw [show m.reports.map oReport = (m.reports.take i).map oReport by rw [List.take_of_length_le (by omega)]] at hQ2
    refine Eq.mp ?_ hQ2
    kernel_rfl
  rename_i h2; have h2 : (i : Int) < (rpCL m.reports).length := of_decide_eq_true h2
  rw [hlen] at h2
  obtain ⟨v, hx⟩ : ∃ v, m.reports[i]? = some v := ⟨m.reports[i]'(by omega), List.getElem?_eq_getElem (by omega)⟩
  have hxa : (rpCL m.reports)[i]? = some (rpC v) := by simp [rpCL, hx]
  have hstep := wSeq_take m.reports oReport i v hx (oMany m.reports.length (l, bad))
  have hle : (oReport v (wSeq ((m.reports.take i).map oReport) (oMany m.reports.length (l, bad)))).1.length ≤ 1099511627776 := by
    rw [← hstep]
    exact Nat.le_trans (wSeq_take_le m.reports oReport oReport_le (i + 1) _) hl
  have hi1 : IntKind.i64.wrap ((i : Int) + 1) = ((i + 1 : Nat) : Int) := by rw [IntWalk.i64_in _ (by omega)]; omega
  conv => whnf
  refine ⟨by omega, by rw [hlen]; omega, _, hxa, by kernel_rfl, ?_⟩
  conv => whnf
  refine ⟨v, rfl, hm.reports.2 v (List.mem_of_getElem? hx), _, rfl, hle, ?_⟩
  conv => whnf
  refine R_at ?_ ?_ (hR (i + 1) (by omega) (by omega))
  · rw [← hi1]; kernel_rfl
  · rw [hstep]; kernel_rfl

set_option maxRecDepth 100000 in
theorem s55 {T : Tab} (hT : TGood Tryz.prog T) : SGood Tryz.prog 122 (outT g55) := outT_good g55_det fun args l bad Q h => by
  unfold g55 at h
  split at h
  · obtain ⟨m, i, rfl, hm, hi, rfl, n, rfl, hl, hQ⟩ := h
    have h1 := T55_good hT
    refine abody_sound h1.ok h1.ang h1.mono mixedT Tryz.func122 (entersOf Tryz.func122 (by kernel_rfl) rfl) (N := m.order.length + m.picks.length + m.reports.length + 1) ?_
    match i, hi with
    | 0, _ => exact f55_ok0 m hm n bad hl T _ (oend hQ) _
    | 1, _ => exact f55_ok1 m hm n bad hl T _ (oend hQ) _
    | 2, _ => exact f55_ok2 m hm n bad hl T _ (oend hQ) _
    | 3, _ => exact f55_ok3 m hm n bad hl T _ (oend hQ) _
    | 4, _ => exact f55_ok4 m hm n bad hl T _ (oend hQ) _
    | 5, _ => exact f55_ok5 m hm n bad hl T _ (oend hQ) _
    | 6, _ => exact f55_ok6 m hm n bad hl T _ (oend hQ) _
    | 7, _ => exact f55_ok7 m hm n bad hl T _ (oend hQ) _
    | 8, _ => exact f55_ok8 m hm n bad hl T _ (oend hQ) _
    | 9, _ => exact f55_ok9 m hm n bad hl T _ (oend hQ) _
    | 10, _ => exact f55_ok10 m hm n bad hl T _ (oend hQ) _
    | 11, _ => exact f55_ok11 m hm n bad hl T _ (oend hQ) _
    | 12, _ => exact f55_ok12 m hm n bad hl T _ (oend hQ) _ (by omega)
    | 13, _ => exact f55_ok13 m hm n bad hl T _ (oend hQ) _ (by omega)
    | 14, _ => exact f55_ok14 m hm n bad hl T _ (oend hQ) _ (by omega)
    | i + 15, hi => omega
  · exact h.elim
end Go.Abs

/-
catenaryref05.Known, Fields are what they come to.
-/
namespace Go.Abs
open Go Go.Proofs

def knownB (k : Int) : Bool := (decide (k ≥ 1) && decide (k ≤ 13)) || (decide (k ≥ 20) && decide (k ≤ 25))
def g52 : GSpec := fun args K => match args with
  | [.int .i64 k] => K (.ret (.bool (knownB k)))
  | _ => False
theorem g52_det (args : List AV) : Det (g52 args) := by
  unfold g52
  repeat' (first | exact Det.no | exact Det.at _ | refine Det.and ?_ | refine Det.ex fun _ => ?_ | refine Det.cond ?_ ?_ | split)
theorem g52_flat (args : List AV) (o : AOut) (h : g52 args (· = o)) : flatO o = true := by
  unfold g52 at h
  split at h
  · cases h; rfl
  · exact h.elim
set_option maxRecDepth 100000 in
set_option maxHeartbeats 4000000 in
theorem f52_ok (k : Int) (T : Tab) (Q : AOut → Prop) (hQ : Q (.ret (.bool (knownB k)))) (N : Nat) :
    abody Tryz.prog T 0 N Tryz.f115 [.int .i64 k] [] (fun out Hs => Q (frzO Hs out)) := by
  unfold knownB at hQ
  cases h1 : decide (k ≥ 1) <;> cases h2 : decide (k ≤ 13) <;> cases h3 : decide (k ≥ 20) <;> cases h4 : decide (k ≤ 25) <;> rw [h1, h2, h3, h4] at hQ
  all_goals
    conv => whnf
    rw [h1]
    try rw [h2]
    try rw [h3]
    try rw [h4]
    conv => whnf
    try rw [h2]
    try rw [h3]
    try rw [h4]
    conv => whnf
    try rw [h3]
    try rw [h4]
    conv => whnf
    try rw [h4]
    conv => whnf
    refine Eq.mp ?_ hQ
    kernel_rfl

set_option maxRecDepth 100000 in
theorem s52 {T : Tab} (hT : TGood Tryz.prog T) : SGood Tryz.prog 115 (flatT g52) := flatT_good g52_det g52_flat fun args Q h => by
  unfold g52 at h
  split at h
  · exact body_pure hT mixedT Tryz.func115 (entersOf Tryz.func115 (by kernel_rfl) rfl) 0 (f52_ok _ T Q h 0)
  · exact h.elim

def fldC (k : Int) : List AV := [.bool (hasF k 0), .bool (hasF k 1), .bool (hasF k 2), .bool (hasF k 3), .bool (hasF k 4), .bool (hasF k 5), .bool (hasF k 6), .bool (hasF k 7), .bool (hasF k 8), .bool (hasF k 9), .bool (hasF k 10), .bool (hasF k 11), .bool (hasF k 12), .bool (hasF k 13), .bool (hasF k 14)]
def g53 : GSpec := fun args K => match args with
  | [.int .i64 k] => K (.ret (.agg (fldC k)))
  | _ => False
theorem g53_det (args : List AV) : Det (g53 args) := by
  unfold g53
  repeat' (first | exact Det.no | exact Det.at _ | refine Det.and ?_ | refine Det.ex fun _ => ?_ | refine Det.cond ?_ ?_ | split)
theorem g53_flat (args : List AV) (o : AOut) (h : g53 args (· = o)) : flatO o = true := by
  unfold g53 at h
  split at h
  · cases h; rfl
  · exact h.elim
set_option maxRecDepth 100000 in
set_option maxHeartbeats 8000000 in
theorem f53_ok (k : Int) (T : Tab) (Q : AOut → Prop) (hQ : Q (.ret (.agg (fldC k)))) (n : Nat) :
    abody Tryz.prog T 0 (n + 1 + 1 + 1 + 1 + 1 + 1 + 1 + 1 + 1) Tryz.f116 [.int .i64 k] [] (fun out Hs => Q (frzO Hs out)) := by
  conv => whnf
  split
  · rename_i h; have h : (k == 1) = true := h
    rw [beq_iff_eq] at h
    subst h
    conv => whnf
    refine ⟨rfl, by decide, by decide, ?_⟩
    conv => whnf
    refine ⟨_, _, _, rfl, rfl, ?_⟩
    conv => whnf
    refine ⟨by decide, by decide, ?_⟩
    conv => whnf
    refine Eq.mp ?_ hQ
    kernel_rfl
  rename_i h1; have h1 : (k == 1) = false := h1
  conv => whnf
  split
  · rename_i h; have h : (k == 2) = true := h
    rw [beq_iff_eq] at h
    subst h
    conv => whnf
    refine ⟨rfl, by decide, by decide, ?_⟩
    conv => whnf
    refine ⟨_, _, _, rfl, rfl, ?_⟩
    conv => whnf
    refine ⟨by decide, by decide, ?_⟩
    conv => whnf
    refine ⟨rfl, by decide, by decide, ?_⟩
    conv => whnf
    refine ⟨_, _, _, rfl, rfl, ?_⟩
    conv => whnf
    refine ⟨by decide, by decide, ?_⟩
    conv => whnf
    refine ⟨rfl, by decide, by decide, ?_⟩
    conv => whnf
    refine ⟨_, _, _, rfl, rfl, ?_⟩
    conv => whnf
    refine ⟨by decide, by decide, ?_⟩
    conv => whnf
    refine ⟨rfl, by decide, by decide, ?_⟩
    conv => whnf
    refine ⟨_, _, _, rfl, rfl, ?_⟩
    conv => whnf
    refine ⟨by decide, by decide, ?_⟩
    conv => whnf
    refine Eq.mp ?_ hQ
    kernel_rfl
  rename_i h2; have h2 : (k == 2) = false := h2
  conv => whnf
  split
  · rename_i h; have h : (k == 4) = true := h
    rw [beq_iff_eq] at h
    subst h
    conv => whnf
    refine ⟨rfl, by decide, by decide, ?_⟩
    conv => whnf
    refine ⟨_, _, _, rfl, rfl, ?_⟩
    conv => whnf
    refine ⟨by decide, by decide, ?_⟩
    conv => whnf
    refine ⟨rfl, by decide, by decide, ?_⟩
    conv => whnf
    refine ⟨_, _, _, rfl, rfl, ?_⟩
    conv => whnf
    refine ⟨by decide, by decide, ?_⟩
    conv => whnf
    refine ⟨rfl, by decide, by decide, ?_⟩
    conv => whnf
    refine ⟨_, _, _, rfl, rfl, ?_⟩
    conv => whnf
    refine ⟨by decide, by decide, ?_⟩
    conv => whnf
    refine ⟨rfl, by decide, by decide, ?_⟩
    conv => whnf
    refine ⟨_, _, _, rfl, rfl, ?_⟩
    conv => whnf
    refine ⟨by decide, by decide, ?_⟩
    conv => whnf
    refine Eq.mp ?_ hQ
    kernel_rfl
  rename_i h4; have h4 : (k == 4) = false := h4
  conv => whnf
  split
  · rename_i h; have h : (k == 24) = true := h
    rw [beq_iff_eq] at h
    subst h
    conv => whnf
    refine ⟨rfl, by decide, by decide, ?_⟩
    conv => whnf
    refine ⟨_, _, _, rfl, rfl, ?_⟩
    conv => whnf
    refine ⟨by decide, by decide, ?_⟩
    conv => whnf
    refine ⟨rfl, by decide, by decide, ?_⟩
    conv => whnf
    refine ⟨_, _, _, rfl, rfl, ?_⟩
    conv => whnf
    refine ⟨by decide, by decide, ?_⟩
    conv => whnf
    refine ⟨rfl, by decide, by decide, ?_⟩
    conv => whnf
    refine ⟨_, _, _, rfl, rfl, ?_⟩
    conv => whnf
    refine ⟨by decide, by decide, ?_⟩
    conv => whnf
    refine ⟨rfl, by decide, by decide, ?_⟩
    conv => whnf
    refine ⟨_, _, _, rfl, rfl, ?_⟩
    conv => whnf
    refine ⟨by decide, by decide, ?_⟩
    conv => whnf
    refine Eq.mp ?_ hQ
    kernel_rfl
  rename_i h24; have h24 : (k == 24) = false := h24
  conv => whnf
  split
  · rename_i h; have h : (k == 3) = true := h
    rw [beq_iff_eq] at h
    subst h
    conv => whnf
    refine ⟨rfl, by decide, by decide, ?_⟩
    conv => whnf
    refine ⟨_, _, _, rfl, rfl, ?_⟩
    conv => whnf
    refine ⟨by decide, by decide, ?_⟩
    conv => whnf
    refine ⟨rfl, by decide, by decide, ?_⟩
    conv => whnf
    refine ⟨_, _, _, rfl, rfl, ?_⟩
    conv => whnf
    refine ⟨by decide, by decide, ?_⟩
    conv => whnf
    refine ⟨rfl, by decide, by decide, ?_⟩
    conv => whnf
    refine ⟨_, _, _, rfl, rfl, ?_⟩
    conv => whnf
    refine ⟨by decide, by decide, ?_⟩
    conv => whnf
    refine ⟨rfl, by decide, by decide, ?_⟩
    conv => whnf
    refine ⟨_, _, _, rfl, rfl, ?_⟩
    conv => whnf
    refine ⟨by decide, by decide, ?_⟩
    conv => whnf
    refine ⟨rfl, by decide, by decide, ?_⟩
    conv => whnf
    refine ⟨_, _, _, rfl, rfl, ?_⟩
    conv => whnf
    refine ⟨by decide, by decide, ?_⟩
    conv => whnf
    refine Eq.mp ?_ hQ
    kernel_rfl
  rename_i h3; have h3 : (k == 3) = false := h3
  conv => whnf
  split
  · rename_i h; have h : (k == 5) = true := h
    rw [beq_iff_eq] at h
    subst h
    conv => whnf
    refine ⟨rfl, by decide, by decide, ?_⟩
    conv => whnf
    refine ⟨_, _, _, rfl, rfl, ?_⟩
    conv => whnf
    refine ⟨by decide, by decide, ?_⟩
    conv => whnf
    refine ⟨rfl, by decide, by decide, ?_⟩
    conv => whnf
    refine ⟨_, _, _, rfl, rfl, ?_⟩
    conv => whnf
    refine ⟨by decide, by decide, ?_⟩
    conv => whnf
    refine ⟨rfl, by decide, by decide, ?_⟩
    conv => whnf
    refine ⟨_, _, _, rfl, rfl, ?_⟩
    conv => whnf
    refine ⟨by decide, by decide, ?_⟩
    conv => whnf
    refine ⟨rfl, by decide, by decide, ?_⟩
    conv => whnf
    refine ⟨_, _, _, rfl, rfl, ?_⟩
    conv => whnf
    refine ⟨by decide, by decide, ?_⟩
    conv => whnf
    refine ⟨rfl, by decide, by decide, ?_⟩
    conv => whnf
    refine ⟨_, _, _, rfl, rfl, ?_⟩
    conv => whnf
    refine ⟨by decide, by decide, ?_⟩
    conv => whnf
    refine Eq.mp ?_ hQ
    kernel_rfl
  rename_i h5; have h5 : (k == 5) = false := h5
  conv => whnf
  split
  · rename_i h; have h : (k == 6) = true := h
    rw [beq_iff_eq] at h
    subst h
    conv => whnf
    refine ⟨rfl, by decide, by decide, ?_⟩
    conv => whnf
    refine ⟨_, _, _, rfl, rfl, ?_⟩
    conv => whnf
    refine ⟨by decide, by decide, ?_⟩
    conv => whnf
    refine ⟨rfl, by decide, by decide, ?_⟩
    conv => whnf
    refine ⟨_, _, _, rfl, rfl, ?_⟩
    conv => whnf
    refine ⟨by decide, by decide, ?_⟩
    conv => whnf
    refine ⟨rfl, by decide, by decide, ?_⟩
    conv => whnf
    refine ⟨_, _, _, rfl, rfl, ?_⟩
    conv => whnf
    refine ⟨by decide, by decide, ?_⟩
    conv => whnf
    refine ⟨rfl, by decide, by decide, ?_⟩
    conv => whnf
    refine ⟨_, _, _, rfl, rfl, ?_⟩
    conv => whnf
    refine ⟨by decide, by decide, ?_⟩
    conv => whnf
    refine Eq.mp ?_ hQ
    kernel_rfl
  rename_i h6; have h6 : (k == 6) = false := h6
  conv => whnf
  split
  · rename_i h; have h : (k == 7) = true := h
    rw [beq_iff_eq] at h
    subst h
    conv => whnf
    refine ⟨rfl, by decide, by decide, ?_⟩
    conv => whnf
    refine ⟨_, _, _, rfl, rfl, ?_⟩
    conv => whnf
    refine ⟨by decide, by decide, ?_⟩
    conv => whnf
    refine ⟨rfl, by decide, by decide, ?_⟩
    conv => whnf
    refine ⟨_, _, _, rfl, rfl, ?_⟩
    conv => whnf
    refine ⟨by decide, by decide, ?_⟩
    conv => whnf
    refine ⟨rfl, by decide, by decide, ?_⟩
    conv => whnf
    refine ⟨_, _, _, rfl, rfl, ?_⟩
    conv => whnf
    refine ⟨by decide, by decide, ?_⟩
    conv => whnf
    refine ⟨rfl, by decide, by decide, ?_⟩
    conv => whnf
    refine ⟨_, _, _, rfl, rfl, ?_⟩
    conv => whnf
    refine ⟨by decide, by decide, ?_⟩
    conv => whnf
    refine ⟨rfl, by decide, by decide, ?_⟩
    conv => whnf
    refine ⟨_, _, _, rfl, rfl, ?_⟩
    conv => whnf
    refine ⟨by decide, by decide, ?_⟩
    conv => whnf
    refine Eq.mp ?_ hQ
    kernel_rfl
  rename_i h7; have h7 : (k == 7) = false := h7
  conv => whnf
  split
  · rename_i h; have h : (k == 8) = true := h
    rw [beq_iff_eq] at h
    subst h
    conv => whnf
    refine ⟨rfl, by decide, by decide, ?_⟩
    conv => whnf
    refine ⟨_, _, _, rfl, rfl, ?_⟩
    conv => whnf
    refine ⟨by decide, by decide, ?_⟩
    conv => whnf
    refine Eq.mp ?_ hQ
    kernel_rfl
  rename_i h8; have h8 : (k == 8) = false := h8
  conv => whnf
  split
  · rename_i h; have h : (k == 9) = true := h
    rw [beq_iff_eq] at h
    subst h
    conv => whnf
    refine ⟨rfl, by decide, by decide, ?_⟩
    conv => whnf
    refine ⟨_, _, _, rfl, rfl, ?_⟩
    conv => whnf
    refine ⟨by decide, by decide, ?_⟩
    conv => whnf
    refine ⟨rfl, by decide, by decide, ?_⟩
    conv => whnf
    refine ⟨_, _, _, rfl, rfl, ?_⟩
    conv => whnf
    refine ⟨by decide, by decide, ?_⟩
    conv => whnf
    refine ⟨rfl, by decide, by decide, ?_⟩
    conv => whnf
    refine ⟨_, _, _, rfl, rfl, ?_⟩
    conv => whnf
    refine ⟨by decide, by decide, ?_⟩
    conv => whnf
    refine ⟨rfl, by decide, by decide, ?_⟩
    conv => whnf
    refine ⟨_, _, _, rfl, rfl, ?_⟩
    conv => whnf
    refine ⟨by decide, by decide, ?_⟩
    conv => whnf
    refine Eq.mp ?_ hQ
    kernel_rfl
  rename_i h9; have h9 : (k == 9) = false := h9
  conv => whnf
  split
  · rename_i h; have h : (k == 10) = true := h
    rw [beq_iff_eq] at h
    subst h
    conv => whnf
    refine ⟨rfl, by decide, by decide, ?_⟩
    conv => whnf
    refine ⟨_, _, _, rfl, rfl, ?_⟩
    conv => whnf
    refine ⟨by decide, by decide, ?_⟩
    conv => whnf
    refine ⟨rfl, by decide, by decide, ?_⟩
    conv => whnf
    refine ⟨_, _, _, rfl, rfl, ?_⟩
    conv => whnf
    refine ⟨by decide, by decide, ?_⟩
    conv => whnf
    refine ⟨rfl, by decide, by decide, ?_⟩
    conv => whnf
    refine ⟨_, _, _, rfl, rfl, ?_⟩
    conv => whnf
    refine ⟨by decide, by decide, ?_⟩
    conv => whnf
    refine Eq.mp ?_ hQ
    kernel_rfl
  rename_i h10; have h10 : (k == 10) = false := h10
  conv => whnf
  split
  · rename_i h; have h : (k == 11) = true := h
    rw [beq_iff_eq] at h
    subst h
    conv => whnf
    refine ⟨rfl, by decide, by decide, ?_⟩
    conv => whnf
    refine ⟨_, _, _, rfl, rfl, ?_⟩
    conv => whnf
    refine ⟨by decide, by decide, ?_⟩
    conv => whnf
    refine ⟨rfl, by decide, by decide, ?_⟩
    conv => whnf
    refine ⟨_, _, _, rfl, rfl, ?_⟩
    conv => whnf
    refine ⟨by decide, by decide, ?_⟩
    conv => whnf
    refine Eq.mp ?_ hQ
    kernel_rfl
  rename_i h11; have h11 : (k == 11) = false := h11
  conv => whnf
  split
  · rename_i h; have h : (k == 12) = true := h
    rw [beq_iff_eq] at h
    subst h
    conv => whnf
    refine ⟨rfl, by decide, by decide, ?_⟩
    conv => whnf
    refine ⟨_, _, _, rfl, rfl, ?_⟩
    conv => whnf
    refine ⟨by decide, by decide, ?_⟩
    conv => whnf
    refine ⟨rfl, by decide, by decide, ?_⟩
    conv => whnf
    refine ⟨_, _, _, rfl, rfl, ?_⟩
    conv => whnf
    refine ⟨by decide, by decide, ?_⟩
    conv => whnf
    refine ⟨rfl, by decide, by decide, ?_⟩
    conv => whnf
    refine ⟨_, _, _, rfl, rfl, ?_⟩
    conv => whnf
    refine ⟨by decide, by decide, ?_⟩
    conv => whnf
    refine ⟨rfl, by decide, by decide, ?_⟩
    conv => whnf
    refine ⟨_, _, _, rfl, rfl, ?_⟩
    conv => whnf
    refine ⟨by decide, by decide, ?_⟩
    conv => whnf
    refine ⟨rfl, by decide, by decide, ?_⟩
    conv => whnf
    refine ⟨_, _, _, rfl, rfl, ?_⟩
    conv => whnf
    refine ⟨by decide, by decide, ?_⟩
    conv => whnf
    refine ⟨rfl, by decide, by decide, ?_⟩
    conv => whnf
    refine ⟨_, _, _, rfl, rfl, ?_⟩
    conv => whnf
    refine ⟨by decide, by decide, ?_⟩
    conv => whnf
    refine Eq.mp ?_ hQ
    kernel_rfl
  rename_i h12; have h12 : (k == 12) = false := h12
  conv => whnf
  split
  · rename_i h; have h : (k == 13) = true := h
    rw [beq_iff_eq] at h
    subst h
    conv => whnf
    refine ⟨rfl, by decide, by decide, ?_⟩
    conv => whnf
    refine ⟨_, _, _, rfl, rfl, ?_⟩
    conv => whnf
    refine ⟨by decide, by decide, ?_⟩
    conv => whnf
    refine ⟨rfl, by decide, by decide, ?_⟩
    conv => whnf
    refine ⟨_, _, _, rfl, rfl, ?_⟩
    conv => whnf
    refine ⟨by decide, by decide, ?_⟩
    conv => whnf
    refine ⟨rfl, by decide, by decide, ?_⟩
    conv => whnf
    refine ⟨_, _, _, rfl, rfl, ?_⟩
    conv => whnf
    refine ⟨by decide, by decide, ?_⟩
    conv => whnf
    refine ⟨rfl, by decide, by decide, ?_⟩
    conv => whnf
    refine ⟨_, _, _, rfl, rfl, ?_⟩
    conv => whnf
    refine ⟨by decide, by decide, ?_⟩
    conv => whnf
    refine ⟨rfl, by decide, by decide, ?_⟩
    conv => whnf
    refine ⟨_, _, _, rfl, rfl, ?_⟩
    conv => whnf
    refine ⟨by decide, by decide, ?_⟩
    conv => whnf
    refine ⟨rfl, by decide, by decide, ?_⟩
    conv => whnf
    refine ⟨_, _, _, rfl, rfl, ?_⟩
    conv => whnf
    refine ⟨by decide, by decide, ?_⟩
    conv => whnf
    refine ⟨rfl, by decide, by decide, ?_⟩
    conv => whnf
    refine ⟨_, _, _, rfl, rfl, ?_⟩
    conv => whnf
    refine ⟨by decide, by decide, ?_⟩
    conv => whnf
    refine ⟨rfl, by decide, by decide, ?_⟩
    conv => whnf
    refine ⟨_, _, _, rfl, rfl, ?_⟩
    conv => whnf
    refine ⟨by decide, by decide, ?_⟩
    conv => whnf
    refine Eq.mp ?_ hQ
    kernel_rfl
  rename_i h13; have h13 : (k == 13) = false := h13
  conv => whnf
  split
  · rename_i h; have h : (k == 20) = true := h
    rw [beq_iff_eq] at h
    subst h
    conv => whnf
    refine ⟨rfl, by decide, by decide, ?_⟩
    conv => whnf
    refine ⟨_, _, _, rfl, rfl, ?_⟩
    conv => whnf
    refine ⟨by decide, by decide, ?_⟩
    conv => whnf
    refine Eq.mp ?_ hQ
    kernel_rfl
  rename_i h20; have h20 : (k == 20) = false := h20
  conv => whnf
  split
  · rename_i h; have h : (k == 21) = true := h
    rw [beq_iff_eq] at h
    subst h
    conv => whnf
    refine ⟨rfl, by decide, by decide, ?_⟩
    conv => whnf
    refine ⟨_, _, _, rfl, rfl, ?_⟩
    conv => whnf
    refine ⟨by decide, by decide, ?_⟩
    conv => whnf
    refine ⟨rfl, by decide, by decide, ?_⟩
    conv => whnf
    refine ⟨_, _, _, rfl, rfl, ?_⟩
    conv => whnf
    refine ⟨by decide, by decide, ?_⟩
    conv => whnf
    refine ⟨rfl, by decide, by decide, ?_⟩
    conv => whnf
    refine ⟨_, _, _, rfl, rfl, ?_⟩
    conv => whnf
    refine ⟨by decide, by decide, ?_⟩
    conv => whnf
    refine ⟨rfl, by decide, by decide, ?_⟩
    conv => whnf
    refine ⟨_, _, _, rfl, rfl, ?_⟩
    conv => whnf
    refine ⟨by decide, by decide, ?_⟩
    conv => whnf
    refine Eq.mp ?_ hQ
    kernel_rfl
  rename_i h21; have h21 : (k == 21) = false := h21
  conv => whnf
  split
  · rename_i h; have h : (k == 22) = true := h
    rw [beq_iff_eq] at h
    subst h
    conv => whnf
    refine ⟨rfl, by decide, by decide, ?_⟩
    conv => whnf
    refine ⟨_, _, _, rfl, rfl, ?_⟩
    conv => whnf
    refine ⟨by decide, by decide, ?_⟩
    conv => whnf
    refine ⟨rfl, by decide, by decide, ?_⟩
    conv => whnf
    refine ⟨_, _, _, rfl, rfl, ?_⟩
    conv => whnf
    refine ⟨by decide, by decide, ?_⟩
    conv => whnf
    refine ⟨rfl, by decide, by decide, ?_⟩
    conv => whnf
    refine ⟨_, _, _, rfl, rfl, ?_⟩
    conv => whnf
    refine ⟨by decide, by decide, ?_⟩
    conv => whnf
    refine Eq.mp ?_ hQ
    kernel_rfl
  rename_i h22; have h22 : (k == 22) = false := h22
  conv => whnf
  split
  · rename_i h; have h : (k == 23) = true := h
    rw [beq_iff_eq] at h
    subst h
    conv => whnf
    refine ⟨rfl, by decide, by decide, ?_⟩
    conv => whnf
    refine ⟨_, _, _, rfl, rfl, ?_⟩
    conv => whnf
    refine ⟨by decide, by decide, ?_⟩
    conv => whnf
    refine ⟨rfl, by decide, by decide, ?_⟩
    conv => whnf
    refine ⟨_, _, _, rfl, rfl, ?_⟩
    conv => whnf
    refine ⟨by decide, by decide, ?_⟩
    conv => whnf
    refine ⟨rfl, by decide, by decide, ?_⟩
    conv => whnf
    refine ⟨_, _, _, rfl, rfl, ?_⟩
    conv => whnf
    refine ⟨by decide, by decide, ?_⟩
    conv => whnf
    refine ⟨rfl, by decide, by decide, ?_⟩
    conv => whnf
    refine ⟨_, _, _, rfl, rfl, ?_⟩
    conv => whnf
    refine ⟨by decide, by decide, ?_⟩
    conv => whnf
    refine Eq.mp ?_ hQ
    kernel_rfl
  rename_i h23; have h23 : (k == 23) = false := h23
  conv => whnf
  split
  · rename_i h; have h : (k == 25) = true := h
    rw [beq_iff_eq] at h
    subst h
    conv => whnf
    refine ⟨rfl, by decide, by decide, ?_⟩
    conv => whnf
    refine ⟨_, _, _, rfl, rfl, ?_⟩
    conv => whnf
    refine ⟨by decide, by decide, ?_⟩
    conv => whnf
    refine ⟨rfl, by decide, by decide, ?_⟩
    conv => whnf
    refine ⟨_, _, _, rfl, rfl, ?_⟩
    conv => whnf
    refine ⟨by decide, by decide, ?_⟩
    conv => whnf
    refine ⟨rfl, by decide, by decide, ?_⟩
    conv => whnf
    refine ⟨_, _, _, rfl, rfl, ?_⟩
    conv => whnf
    refine ⟨by decide, by decide, ?_⟩
    conv => whnf
    refine Eq.mp ?_ hQ
    kernel_rfl
  rename_i h25; have h25 : (k == 25) = false := h25
  conv => whnf
  have hf : fieldsL k = [] := by unfold fieldsL; simp only [h1, h2, h4, h24, h3, h5, h6, h7, h8, h9, h10, h11, h12, h13, h20, h21, h22, h23, h25]; rfl
  have hh : ∀ i, hasF k i = false := fun i => by unfold hasF; rw [hf]; rfl
  unfold fldC at hQ
  simp only [hh] at hQ
  refine Eq.mp ?_ hQ
  kernel_rfl

set_option maxRecDepth 100000 in
theorem s53 {T : Tab} (hT : TGood Tryz.prog T) : SGood Tryz.prog 116 (flatT g53) := flatT_good g53_det g53_flat fun args Q h => by
  unfold g53 at h
  split at h
  · exact body_pure hT mixedT Tryz.func116 (entersOf Tryz.func116 (by kernel_rfl) rfl) _ (f53_ok _ T Q h 0)
  · exact h.elim
end Go.Abs

/-
Plain laws: what the program writes and what the document writes are one; no program.
-/
namespace Go.Abs
open Go

/-- Alike: both bad, or the same bytes. -/
def Rel (s t : WS) : Prop := s.2 = t.2 ∧ (s.2 = false → s.1 = t.1)
structure PR (e f : WS → WS) : Prop where
  rel : ∀ s t, Rel s t → Rel (e s) (f t)
  mono : ∀ t : WS, t.2 = true → (f t).2 = true
theorem Rel.refl (s : WS) : Rel s s := ⟨rfl, fun _ => rfl⟩
theorem pr_num (n : Int) : PR (wNum n) (wNum n) := ⟨fun s t h => ⟨by simp only [wNum, h.1], fun hb => by
    simp only [wNum, Bool.or_eq_false_iff] at hb ⊢
    rw [h.2 hb.1]⟩, fun t h => by simp only [wNum, h, Bool.true_or]⟩
theorem pr_text (p : List Int) : PR (wText p) (wText p) := ⟨fun s t h => ⟨by simp only [wText, h.1], fun hb => by
    simp only [wText, Bool.or_eq_false_iff] at hb ⊢
    rw [h.2 hb.1]⟩, fun t h => by simp only [wText, h, Bool.true_or]⟩
theorem PR.comp {e f e' f' : WS → WS} (h : PR e f) (k : PR e' f') : PR (fun s => e' (e s)) (fun s => f' (f s)) := ⟨fun s t hr => k.rel _ _ (h.rel s t hr), fun t ht => k.mono _ (h.mono t ht)⟩
theorem pr_bal (b : BalV) : PR (wBal b) (wBal b) := (pr_num _).comp (pr_num _)
theorem pr_req (r : RqV) : PR (wReq r) (wReq r) := (((pr_num _).comp (pr_num _)).comp (pr_text _)).comp (pr_text _)
theorem pr_vote (v : VtV) : PR (wVote v) (wVote v) := (pr_num _).comp (pr_text _)
theorem pr_seq {α : Type} (e f : α → WS → WS) : ∀ (l : List α), (∀ v ∈ l, PR (e v) (f v)) → PR (wSeq (l.map e)) (wSeq (l.map f))
  | [], _ => ⟨fun _ _ h => h, fun _ h => h⟩
  | x :: l, h => (h x List.mem_cons_self).comp (pr_seq e f l (fun v hv => h v (List.mem_cons_of_mem _ hv)))
theorem pr_list {α : Type} (e f : α → WS → WS) (l : List α) (h : ∀ v ∈ l, PR (e v) (f v)) : PR (wList (l.map e)) (oSeq f l) := by
  have hs := pr_seq e f l h
  have hlen : ((l.map e).length : Int) = (l.length : Int) := by rw [List.length_map]
  refine ⟨fun s t hr => ?_, fun t ht => hs.mono _ (by simp only [oMany, wNum, ht, Bool.true_or])⟩
  have h1 : Rel (wNum l.length (s.1, s.2 || decide ((l.length : Int) > 64))) (oMany l.length t) := by
    constructor
    · simp only [wNum, oMany, hr.1]
      cases t.2 <;> cases decide ((l.length : Int) > 64) <;> cases okI l.length <;> rfl
    · intro hb
      simp only [wNum, oMany, Bool.or_eq_false_iff] at hb ⊢
      rw [hr.2 hb.1.1]
  unfold wList oSeq
  rw [hlen]
  dsimp only
  cases hb : (wNum (l.length : Int) (s.1, s.2 || decide ((l.length : Int) > 64))).2 with
  | true => exact ⟨by rw [_root_.cond_true, hb, hs.mono _ (h1.1 ▸ hb)], fun hf => by rw [_root_.cond_true, hb] at hf; cases hf⟩
  | false => exact hs.rel _ _ h1
theorem pr_votes (l : List VtV) : PR (wVotes l) (oVotes l) := pr_list wVote wVote l fun v _ => pr_vote v
theorem pr_prep (p : PrV) : PR (wPrep p) (oPrep p) := (((pr_num _).comp (pr_bal _)).comp (pr_req _)).comp (pr_votes _)
theorem pr_report (r : RpV) : PR (wReport r) (oReport r) :=
  ((((((pr_bal _).comp (pr_num _)).comp (pr_num _)).comp (pr_text _)).comp (pr_votes _)).comp (pr_list wPrep oPrep r.preps fun p _ => pr_prep p)).comp (pr_text _)
theorem pr_field (m : MsV) (i : Nat) : PR (wField m i) (oField m i) := by
  match i with
  | 0 => exact pr_bal _
  | 1 => exact pr_num _
  | 2 => exact pr_num _
  | 3 => exact pr_num _
  | 4 => exact pr_num _
  | 5 => exact pr_num _
  | 6 => exact pr_req _
  | 7 => exact pr_req _
  | 8 => exact pr_text _
  | 9 => exact pr_text _
  | 10 => exact pr_votes _
  | 11 => exact pr_votes _
  | 12 => exact pr_list wNum wNum _ fun v _ => pr_num v
  | 13 => exact pr_list wReq wReq _ fun v _ => pr_req v
  | 14 => exact pr_list wReport oReport _ fun v _ => pr_report v
  | i + 15 => exact ⟨fun _ _ h => h, fun _ h => h⟩

/-- The document's side. -/
def oS (m : MsV) : Nat → WS
  | 0 => wNum m.kind ([], false)
  | i + 1 => cond (hasF m.kind i) (oField m i (oS m i)) (oS m i)
def emptyO (m : MsV) (i : Nat) : Bool := !((oField m i ([], false)).2 || !decide ((oField m i ([], false)).1 = (oField zM i ([], false)).1))
def empAllO (m : MsV) : Nat → Bool
  | 0 => true
  | i + 1 => empAllO m i && (hasF m.kind i || emptyO m i)
def encOE (m : MsV) : Int :=
  if knownB m.kind = false then 51 else if empAllO m 15 = false then 51 else if (oS m 15).2 = true then 51 else if ((oS m 15).1.length : Int) > 1048576 then 53 else 0
theorem zero_bad : ∀ i : Fin 15, (wField zM i.val ([], false)).2 = false := by decide
theorem emptyO_eq (m : MsV) (i : Nat) (hi : i < 15) : emptyO m i = emptyF m i := by
  have h1 := (pr_field m i).rel ([], false) ([], false) (Rel.refl _)
  have h2 := (pr_field zM i).rel ([], false) ([], false) (Rel.refl _)
  have h3 := h2.2 (zero_bad ⟨i, hi⟩)
  unfold emptyO emptyF
  rw [← h1.1, ← h3]
  cases hb : (wField m i ([], false)).2 with
  | true => simp
  | false =>
    rw [← h1.2 hb]
    simp
theorem empAllO_eq (m : MsV) : ∀ i, i ≤ 15 → empAllO m i = empAll m i
  | 0, _ => rfl
  | i + 1, h => by simp only [empAllO, empAll, empAllO_eq m i (by omega), emptyO_eq m i (by omega)]
theorem oS_rel (m : MsV) : ∀ i, Rel (encS m i) (oS m i)
  | 0 => Rel.refl _
  | i + 1 => by
    unfold encS oS
    cases hasF m.kind i with
    | true => exact (pr_field m i).rel _ _ (oS_rel m i)
    | false => exact oS_rel m i
theorem known_fields (k : Int) : knownB k = !decide (fieldsL k = []) := by
  by_cases h : knownB k = true
  · rw [h]
    unfold knownB at h
    simp only [Bool.or_eq_true, Bool.and_eq_true, decide_eq_true_eq] at h
    have h : k = 1 ∨ k = 2 ∨ k = 3 ∨ k = 4 ∨ k = 5 ∨ k = 6 ∨ k = 7 ∨ k = 8 ∨ k = 9 ∨ k = 10 ∨ k = 11 ∨ k = 12 ∨ k = 13 ∨ k = 20 ∨ k = 21 ∨ k = 22 ∨ k = 23 ∨ k = 24 ∨ k = 25 := by omega
    rcases h with rfl | rfl | rfl | rfl | rfl | rfl | rfl | rfl | rfl | rfl | rfl | rfl | rfl | rfl | rfl | rfl | rfl | rfl | rfl <;> rfl
  · have h0 : knownB k = false := by simpa using h
    rw [h0]
    unfold knownB at h0
    simp only [Bool.or_eq_false_iff, Bool.and_eq_false_iff, decide_eq_false_iff_not] at h0
    have ne : ∀ c : Int, (c ≥ 1 ∧ c ≤ 13) ∨ (c ≥ 20 ∧ c ≤ 25) → (k == c) = false := fun c hc => by
      rw [beq_eq_false_iff_ne]
      intro e
      subst e
      omega
    have : fieldsL k = [] := by
      unfold fieldsL
      simp only [ne 1 (by omega), ne 2 (by omega), ne 3 (by omega), ne 4 (by omega), ne 5 (by omega), ne 6 (by omega), ne 7 (by omega), ne 8 (by omega), ne 9 (by omega), ne 10 (by omega), ne 11 (by omega), ne 12 (by omega), ne 13 (by omega), ne 20 (by omega), ne 21 (by omega), ne 22 (by omega), ne 23 (by omega), ne 24 (by omega), ne 25 (by omega)]
      rfl
    rw [this]
    rfl
theorem encOE_eq (m : MsV) : encOE m = encE m := by
  have h1 := oS_rel m 15
  unfold encOE encE
  rw [known_fields, empAllO_eq m 15 (Nat.le_refl _), ← h1.1]
  by_cases hf : fieldsL m.kind = []
  · simp [hf]
  · simp only [hf, decide_false, Bool.not_false, Bool.true_eq_false, if_false]
    split
    · rfl
    · split
      · rfl
      · rename_i hb
        rw [← h1.2 (by simpa using hb)]
theorem oS_eq (m : MsV) (h : encE m = 0) : (oS m 15).1 = (encS m 15).1 := by
  refine ((oS_rel m 15).2 ?_).symm
  unfold encE at h
  split at h
  · cases h
  · split at h
    · cases h
    · split at h
      · cases h
      · rename_i hb
        simpa using hb

end Go.Abs

/-
catenaryref05.Encode is what it comes to.
-/
namespace Go.Abs
open Go Go.Proofs

theorem oMany_c (n : Int) (s : WS) : (oMany n s).1.length ≤ s.1.length + 6 := wNum_c n s
theorem oSeq_c {α : Type} (e : α → WS → WS) (c : α → Nat) (h : ∀ v s, (e v s).1.length ≤ s.1.length + c v) (l : List α) (s : WS) : (oSeq e l s).1.length ≤ s.1.length + (6 + sumN c l) := by
  have h1 := oMany_c l.length s
  have h2 := wSeq_c e c h l (oMany l.length s)
  unfold oSeq
  omega
theorem oVotes_c (l : List VtV) (s : WS) : (oVotes l s).1.length ≤ s.1.length + cVs l := oSeq_c wVote cV wVote_c l s
theorem oPrep_c (p : PrV) (s : WS) : (oPrep p s).1.length ≤ s.1.length + cPr p := by
  have h1 := wNum_c p.slot s
  have h2 := wNum_c p.bal.view (wNum p.slot s)
  have h2' := wNum_c p.bal.turn (wNum p.bal.view (wNum p.slot s))
  have h3 := wReq_c p.req (wNum p.bal.turn (wNum p.bal.view (wNum p.slot s)))
  have h4 := oVotes_c p.cert (wReq p.req (wNum p.bal.turn (wNum p.bal.view (wNum p.slot s))))
  simp only [oPrep, cPr]
  omega
theorem oReport_c (r : RpV) (s : WS) : (oReport r s).1.length ≤ s.1.length + cRp r := by
  have h1 := wBal_c r.bal s
  have h2 := wNum_c r.replica (wBal r.bal s)
  have h3 := wNum_c r.low (wNum r.replica (wBal r.bal s))
  have h4 := wText_c r.digest (wNum r.low (wNum r.replica (wBal r.bal s)))
  have h5 := oVotes_c r.stable (wText r.digest (wNum r.low (wNum r.replica (wBal r.bal s))))
  have h6 := oSeq_c oPrep cPr oPrep_c r.preps (oVotes r.stable (wText r.digest (wNum r.low (wNum r.replica (wBal r.bal s)))))
  have h7 := wText_c r.sig (oSeq oPrep r.preps (oVotes r.stable (wText r.digest (wNum r.low (wNum r.replica (wBal r.bal s))))))
  simp only [oReport, cRp]
  omega
theorem oField_c (m : MsV) (i : Nat) (s : WS) : (oField m i s).1.length ≤ s.1.length + cM m := by
  match i with
  | 0 => have := wBal_c m.bal s; simp only [oField, cM]; omega
  | 1 => have := wNum_c m.slot s; simp only [oField, cM]; omega
  | 2 => have := wNum_c m.from_ s; simp only [oField, cM]; omega
  | 3 => have := wNum_c m.to s; simp only [oField, cM]; omega
  | 4 => have := wNum_c m.index s; simp only [oField, cM]; omega
  | 5 => have := wNum_c m.count s; simp only [oField, cM]; omega
  | 6 => have := wReq_c m.req s; simp only [oField, cM]; omega
  | 7 => have := wReq_c m.other s; simp only [oField, cM]; omega
  | 8 => have := wText_c m.data s; simp only [oField, cM]; omega
  | 9 => have := wText_c m.sig s; simp only [oField, cM]; omega
  | 10 => have := oVotes_c m.cert s; simp only [oField, cM]; omega
  | 11 => have := oVotes_c m.votes s; simp only [oField, cM]; omega
  | 12 =>
    have := oSeq_c wNum (fun _ => 6) wNum_c m.order s
    rw [sumN_const] at this
    simp only [oField, cM]; omega
  | 13 => have := oSeq_c wReq cR wReq_c m.picks s; simp only [oField, cM]; omega
  | 14 => have := oSeq_c oReport cRp oReport_c m.reports s; simp only [oField, cM]; omega
  | i + 15 => simp only [oField, id]; omega
theorem oSeq_b {α : Type} {e : α → WS → WS} {l : List α} (he : ∀ v ∈ l, OkE (e v)) : OkE (oSeq e l) := fun s h =>
  wSeq_b _ (fun f hf => by
    obtain ⟨v, hv, rfl⟩ := List.mem_map.1 hf
    exact he v hv) _ (wNum_b _ s h)
theorem oVotes_b {l : List VtV} (hl : okVL l) : OkE (oVotes l) := oSeq_b fun v hv => wVote_b (hl.2 v hv)
theorem oPrep_b {p : PrV} (hp : okPr p) : OkE (oPrep p) := fun s h => oVotes_b hp.2 _ (wReq_b hp.1 _ (wNum_b _ _ (wNum_b _ _ (wNum_b _ s h))))
theorem oReport_b {r : RpV} (hr : okRp r) : OkE (oReport r) := fun s h =>
  wText_b hr.2.2.2.1 _ (oSeq_b (fun p hp => oPrep_b (hr.2.2.1.2 p hp)) _ (oVotes_b hr.2.1 _ (wText_b hr.1.1 _ (wNum_b _ _ (wNum_b _ _ (wBal_b _ s h))))))
theorem oField_b {m : MsV} (hm : OkM m) (i : Nat) : OkE (oField m i) := by
  match i with
  | 0 => exact wBal_b _
  | 1 => exact wNum_b _
  | 2 => exact wNum_b _
  | 3 => exact wNum_b _
  | 4 => exact wNum_b _
  | 5 => exact wNum_b _
  | 6 => exact wReq_b hm.req
  | 7 => exact wReq_b hm.other
  | 8 => exact wText_b hm.data.1
  | 9 => exact wText_b hm.sig.1
  | 10 => exact oVotes_b hm.cert
  | 11 => exact oVotes_b hm.votes
  | 12 => exact oSeq_b fun _ _ => wNum_b _
  | 13 => exact oSeq_b fun v hv => wReq_b (hm.picks.2 v hv)
  | 14 => exact oSeq_b fun v hv => oReport_b (hm.reports.2 v hv)
  | i + 15 => exact fun _ h => h
theorem oS_c (m : MsV) : ∀ i, (oS m i).1.length ≤ 6 + i * cM m
  | 0 => by have := wNum_c m.kind ([], false); simpa [oS] using this
  | i + 1 => by
    have h := oS_c m i
    have h2 := oField_c m i (oS m i)
    unfold oS
    rw [Nat.succ_mul]
    cases hasF m.kind i with
    | true => show (oField m i (oS m i)).1.length ≤ _; omega
    | false => show (oS m i).1.length ≤ _; omega
theorem empAllO_false (m : MsV) : ∀ (n i : Nat), i < n → hasF m.kind i = false → emptyO m i = false → empAllO m n = false
  | n + 1, i, h, h1, h2 => by
    unfold empAllO
    by_cases hi : i = n
    · subst hi; rw [h1, h2]; simp
    · rw [empAllO_false m n i (by omega) h1 h2]; rfl

def g17 : GSpec := fun args K => match args with
  | [.agg cs] => ∃ m : MsV, cs = msC m ∧ OkM m ∧ cM m ≤ 1073741824 ∧ K (.ret (.tuple [.slice (bsA (cond (encOE m == 0) (oS m 15).1 [])), .int .i64 (encOE m)]))
  | _ => False
theorem g17_det (args : List AV) : Det (g17 args) := by
  unfold g17
  repeat' (first | exact Det.no | exact Det.at _ | refine Det.and ?_ | refine Det.ex fun _ => ?_ | refine Det.cond ?_ ?_ | split)

set_option maxRecDepth 100000 in
set_option maxHeartbeats 16000000 in
theorem f17_ok (m : MsV) (hm : OkM m) (hc : cM m ≤ 1073741824) (T : Tab) (Q : AOut → Prop) (hQ : Q (.ret (.tuple [.slice (bsA (cond (encOE m == 0) (oS m 15).1 [])), .int .i64 (encOE m)]))) (N : Nat) (hN : 15 < N) :
    abody Tryz.prog (ext (ext (ext (ext (ext T 25 (flatT g18)) 115 (flatT g52)) 116 (flatT g53)) 121 (outT g46)) 122 (outT g55)) 0 N Tryz.f69 [.agg (msC m)] [] (fun out Hs => Q (frzO Hs out)) := by
  have bad : ∀ e, encOE m = e → (e == 0) = false → Q (.ret (.tuple [.slice [], .int .i64 e])) := fun e h1 h2 => by
    rw [h1, h2] at hQ
    exact hQ
  have good : encOE m = 0 → Q (.ret (.tuple [.slice (bsA (oS m 15).1), .int .i64 0])) := fun h1 => by
    rw [h1] at hQ
    exact hQ
  clear hQ
  have hsz : ∀ i, i ≤ 15 → (oS m i).1.length ≤ 1099511627776 := fun i hi => by
    have := oS_c m i
    have := Nat.mul_le_mul_right (cM m) hi
    omega
  conv => whnf
  cases hk : knownB m.kind with
  | false =>
    have := bad 51 (by unfold encOE; rw [if_pos hk]) (by decide)
    conv => whnf
    refine Eq.mp ?_ this
    kernel_rfl
  | true =>
  have hk' : ¬ knownB m.kind = false := by rw [hk]; decide
  conv => whnf
  refine ⟨[], rfl, hsz 0 (by omega), ?_⟩
  conv => whnf
  refine aloop_at ?_ ?_ (aloop_inv (σ := Nat) (fun i => ((sp 0 57 [(1, .ptr 0 0), (4, .ptr 1 0), (5, .ptr 2 0), (6, .int .i64 (i : Nat))]), [.var (msC m), .var (fldC m.kind), .var [.row 3, .bool (oS m i).2], wrow (bsA (oS m i).1)]))
    (fun i => i ≤ 15 ∧ empAllO m i = true) (fun i => 15 - i) ?_ N 0 ⟨Nat.zero_le _, rfl⟩ (by omega))
  · kernel_rfl
  · kernel_rfl
  rintro i ⟨hi, hemp⟩ R hR
  have hcs : i = 0 ∨ i = 1 ∨ i = 2 ∨ i = 3 ∨ i = 4 ∨ i = 5 ∨ i = 6 ∨ i = 7 ∨ i = 8 ∨ i = 9 ∨ i = 10 ∨ i = 11 ∨ i = 12 ∨ i = 13 ∨ i = 14 ∨ i = 15 := by omega
  rcases hcs with rfl | rfl | rfl | rfl | rfl | rfl | rfl | rfl | rfl | rfl | rfl | rfl | rfl | rfl | rfl | rfl
  · conv => whnf
    refine ⟨by decide, by decide, ?_⟩
    have hs : oS m 1 = cond (hasF m.kind 0) (oField m 0 (oS m 0)) (oS m 0) := rfl
    have hem : empAllO m 1 = (empAllO m 0 && (hasF m.kind 0 || emptyO m 0)) := rfl
    conv => whnf
    split
    · rename_i h3
      have h3 : hasF m.kind 0 = true := h3
      rw [h3, _root_.cond_true] at hs
      rw [h3, hemp] at hem
      conv => whnf
      refine ⟨m, 0, rfl, hm, by decide, rfl, _, rfl, by rw [← hs]; exact hsz 1 (by omega), ?_⟩
      conv => whnf
      refine R_at ?_ ?_ (hR 1 ⟨by omega, hem⟩ (by omega))
      · kernel_rfl
      · rw [hs]; kernel_rfl
    · rename_i h3
      have h3 : hasF m.kind 0 = false := h3
      rw [h3, _root_.cond_false] at hs
      rw [h3, hemp] at hem
      have q1 := oField_c m 0 ([], false)
      have q2 := oField_c zM 0 ([], false)
      have q3 := cM_z
      have b1 := oField_b hm 0 ([], false) okB_nil
      have b2 := oField_b okM_z 0 ([], false) okB_nil
      simp only [List.length_nil, Nat.zero_add] at q1 q2
      have hemO : emptyO m 0 = !((oField m 0 ([], false)).2 || !decide ((oField m 0 ([], false)).1 = (oField zM 0 ([], false)).1)) := rfl
      conv => whnf
      refine ⟨m, 0, rfl, hm, by decide, rfl, [], rfl, by omega, ?_⟩
      conv => whnf
      refine ⟨zM, 0, rfl, okM_z, by decide, rfl, [], rfl, by omega, ?_⟩
      cases hb : (oField m 0 ([], false)).2 with
      | true =>
        rw [hb] at hemO
        have := bad 51 (by unfold encOE; rw [if_neg hk', if_pos (empAllO_false m 15 0 (by decide) h3 hemO)]) (by decide)
        conv => whnf
        refine Eq.mp ?_ this
        kernel_rfl
      | false =>
        rw [hb] at hemO
        conv => whnf
        refine ⟨_, _, rfl, rfl, b1, b2, ?_⟩
        cases hd : decide ((oField m 0 ([], false)).1 = (oField zM 0 ([], false)).1) with
        | false =>
          rw [hd] at hemO
          have := bad 51 (by unfold encOE; rw [if_neg hk', if_pos (empAllO_false m 15 0 (by decide) h3 hemO)]) (by decide)
          conv => whnf
          refine Eq.mp ?_ this
          kernel_rfl
        | true =>
          rw [hd] at hemO
          rw [hemO] at hem
          conv => whnf
          refine R_at ?_ ?_ (hR 1 ⟨by omega, hem⟩ (by omega))
          · kernel_rfl
          · rw [hs]; kernel_rfl
  · conv => whnf
    refine ⟨by decide, by decide, ?_⟩
    have hs : oS m 2 = cond (hasF m.kind 1) (oField m 1 (oS m 1)) (oS m 1) := rfl
    have hem : empAllO m 2 = (empAllO m 1 && (hasF m.kind 1 || emptyO m 1)) := rfl
    conv => whnf
    split
    · rename_i h3
      have h3 : hasF m.kind 1 = true := h3
      rw [h3, _root_.cond_true] at hs
      rw [h3, hemp] at hem
      conv => whnf
      refine ⟨m, 1, rfl, hm, by decide, rfl, _, rfl, by rw [← hs]; exact hsz 2 (by omega), ?_⟩
      conv => whnf
      refine R_at ?_ ?_ (hR 2 ⟨by omega, hem⟩ (by omega))
      · kernel_rfl
      · rw [hs]; kernel_rfl
    · rename_i h3
      have h3 : hasF m.kind 1 = false := h3
      rw [h3, _root_.cond_false] at hs
      rw [h3, hemp] at hem
      have q1 := oField_c m 1 ([], false)
      have q2 := oField_c zM 1 ([], false)
      have q3 := cM_z
      have b1 := oField_b hm 1 ([], false) okB_nil
      have b2 := oField_b okM_z 1 ([], false) okB_nil
      simp only [List.length_nil, Nat.zero_add] at q1 q2
      have hemO : emptyO m 1 = !((oField m 1 ([], false)).2 || !decide ((oField m 1 ([], false)).1 = (oField zM 1 ([], false)).1)) := rfl
      conv => whnf
      refine ⟨m, 1, rfl, hm, by decide, rfl, [], rfl, by omega, ?_⟩
      conv => whnf
      refine ⟨zM, 1, rfl, okM_z, by decide, rfl, [], rfl, by omega, ?_⟩
      cases hb : (oField m 1 ([], false)).2 with
      | true =>
        rw [hb] at hemO
        have := bad 51 (by unfold encOE; rw [if_neg hk', if_pos (empAllO_false m 15 1 (by decide) h3 hemO)]) (by decide)
        conv => whnf
        refine Eq.mp ?_ this
        kernel_rfl
      | false =>
        rw [hb] at hemO
        conv => whnf
        refine ⟨_, _, rfl, rfl, b1, b2, ?_⟩
        cases hd : decide ((oField m 1 ([], false)).1 = (oField zM 1 ([], false)).1) with
        | false =>
          rw [hd] at hemO
          have := bad 51 (by unfold encOE; rw [if_neg hk', if_pos (empAllO_false m 15 1 (by decide) h3 hemO)]) (by decide)
          conv => whnf
          refine Eq.mp ?_ this
          kernel_rfl
        | true =>
          rw [hd] at hemO
          rw [hemO] at hem
          conv => whnf
          refine R_at ?_ ?_ (hR 2 ⟨by omega, hem⟩ (by omega))
          · kernel_rfl
          · rw [hs]; kernel_rfl
  · conv => whnf
    refine ⟨by decide, by decide, ?_⟩
    have hs : oS m 3 = cond (hasF m.kind 2) (oField m 2 (oS m 2)) (oS m 2) := rfl
    have hem : empAllO m 3 = (empAllO m 2 && (hasF m.kind 2 || emptyO m 2)) := rfl
    conv => whnf
    split
    · rename_i h3
      have h3 : hasF m.kind 2 = true := h3
      rw [h3, _root_.cond_true] at hs
      rw [h3, hemp] at hem
      conv => whnf
      refine ⟨m, 2, rfl, hm, by decide, rfl, _, rfl, by rw [← hs]; exact hsz 3 (by omega), ?_⟩
      conv => whnf
      refine R_at ?_ ?_ (hR 3 ⟨by omega, hem⟩ (by omega))
      · kernel_rfl
      · rw [hs]; kernel_rfl
    · rename_i h3
      have h3 : hasF m.kind 2 = false := h3
      rw [h3, _root_.cond_false] at hs
      rw [h3, hemp] at hem
      have q1 := oField_c m 2 ([], false)
      have q2 := oField_c zM 2 ([], false)
      have q3 := cM_z
      have b1 := oField_b hm 2 ([], false) okB_nil
      have b2 := oField_b okM_z 2 ([], false) okB_nil
      simp only [List.length_nil, Nat.zero_add] at q1 q2
      have hemO : emptyO m 2 = !((oField m 2 ([], false)).2 || !decide ((oField m 2 ([], false)).1 = (oField zM 2 ([], false)).1)) := rfl
      conv => whnf
      refine ⟨m, 2, rfl, hm, by decide, rfl, [], rfl, by omega, ?_⟩
      conv => whnf
      refine ⟨zM, 2, rfl, okM_z, by decide, rfl, [], rfl, by omega, ?_⟩
      cases hb : (oField m 2 ([], false)).2 with
      | true =>
        rw [hb] at hemO
        have := bad 51 (by unfold encOE; rw [if_neg hk', if_pos (empAllO_false m 15 2 (by decide) h3 hemO)]) (by decide)
        conv => whnf
        refine Eq.mp ?_ this
        kernel_rfl
      | false =>
        rw [hb] at hemO
        conv => whnf
        refine ⟨_, _, rfl, rfl, b1, b2, ?_⟩
        cases hd : decide ((oField m 2 ([], false)).1 = (oField zM 2 ([], false)).1) with
        | false =>
          rw [hd] at hemO
          have := bad 51 (by unfold encOE; rw [if_neg hk', if_pos (empAllO_false m 15 2 (by decide) h3 hemO)]) (by decide)
          conv => whnf
          refine Eq.mp ?_ this
          kernel_rfl
        | true =>
          rw [hd] at hemO
          rw [hemO] at hem
          conv => whnf
          refine R_at ?_ ?_ (hR 3 ⟨by omega, hem⟩ (by omega))
          · kernel_rfl
          · rw [hs]; kernel_rfl
  · conv => whnf
    refine ⟨by decide, by decide, ?_⟩
    have hs : oS m 4 = cond (hasF m.kind 3) (oField m 3 (oS m 3)) (oS m 3) := rfl
    have hem : empAllO m 4 = (empAllO m 3 && (hasF m.kind 3 || emptyO m 3)) := rfl
    conv => whnf
    split
    · rename_i h3
      have h3 : hasF m.kind 3 = true := h3
      rw [h3, _root_.cond_true] at hs
      rw [h3, hemp] at hem
      conv => whnf
      refine ⟨m, 3, rfl, hm, by decide, rfl, _, rfl, by rw [← hs]; exact hsz 4 (by omega), ?_⟩
      conv => whnf
      refine R_at ?_ ?_ (hR 4 ⟨by omega, hem⟩ (by omega))
      · kernel_rfl
      · rw [hs]; kernel_rfl
    · rename_i h3
      have h3 : hasF m.kind 3 = false := h3
      rw [h3, _root_.cond_false] at hs
      rw [h3, hemp] at hem
      have q1 := oField_c m 3 ([], false)
      have q2 := oField_c zM 3 ([], false)
      have q3 := cM_z
      have b1 := oField_b hm 3 ([], false) okB_nil
      have b2 := oField_b okM_z 3 ([], false) okB_nil
      simp only [List.length_nil, Nat.zero_add] at q1 q2
      have hemO : emptyO m 3 = !((oField m 3 ([], false)).2 || !decide ((oField m 3 ([], false)).1 = (oField zM 3 ([], false)).1)) := rfl
      conv => whnf
      refine ⟨m, 3, rfl, hm, by decide, rfl, [], rfl, by omega, ?_⟩
      conv => whnf
      refine ⟨zM, 3, rfl, okM_z, by decide, rfl, [], rfl, by omega, ?_⟩
      cases hb : (oField m 3 ([], false)).2 with
      | true =>
        rw [hb] at hemO
        have := bad 51 (by unfold encOE; rw [if_neg hk', if_pos (empAllO_false m 15 3 (by decide) h3 hemO)]) (by decide)
        conv => whnf
        refine Eq.mp ?_ this
        kernel_rfl
      | false =>
        rw [hb] at hemO
        conv => whnf
        refine ⟨_, _, rfl, rfl, b1, b2, ?_⟩
        cases hd : decide ((oField m 3 ([], false)).1 = (oField zM 3 ([], false)).1) with
        | false =>
          rw [hd] at hemO
          have := bad 51 (by unfold encOE; rw [if_neg hk', if_pos (empAllO_false m 15 3 (by decide) h3 hemO)]) (by decide)
          conv => whnf
          refine Eq.mp ?_ this
          kernel_rfl
        | true =>
          rw [hd] at hemO
          rw [hemO] at hem
          conv => whnf
          refine R_at ?_ ?_ (hR 4 ⟨by omega, hem⟩ (by omega))
          · kernel_rfl
          · rw [hs]; kernel_rfl
  · conv => whnf
    refine ⟨by decide, by decide, ?_⟩
    have hs : oS m 5 = cond (hasF m.kind 4) (oField m 4 (oS m 4)) (oS m 4) := rfl
    have hem : empAllO m 5 = (empAllO m 4 && (hasF m.kind 4 || emptyO m 4)) := rfl
    conv => whnf
    split
    · rename_i h3
      have h3 : hasF m.kind 4 = true := h3
      rw [h3, _root_.cond_true] at hs
      rw [h3, hemp] at hem
      conv => whnf
      refine ⟨m, 4, rfl, hm, by decide, rfl, _, rfl, by rw [← hs]; exact hsz 5 (by omega), ?_⟩
      conv => whnf
      refine R_at ?_ ?_ (hR 5 ⟨by omega, hem⟩ (by omega))
      · kernel_rfl
      · rw [hs]; kernel_rfl
    · rename_i h3
      have h3 : hasF m.kind 4 = false := h3
      rw [h3, _root_.cond_false] at hs
      rw [h3, hemp] at hem
      have q1 := oField_c m 4 ([], false)
      have q2 := oField_c zM 4 ([], false)
      have q3 := cM_z
      have b1 := oField_b hm 4 ([], false) okB_nil
      have b2 := oField_b okM_z 4 ([], false) okB_nil
      simp only [List.length_nil, Nat.zero_add] at q1 q2
      have hemO : emptyO m 4 = !((oField m 4 ([], false)).2 || !decide ((oField m 4 ([], false)).1 = (oField zM 4 ([], false)).1)) := rfl
      conv => whnf
      refine ⟨m, 4, rfl, hm, by decide, rfl, [], rfl, by omega, ?_⟩
      conv => whnf
      refine ⟨zM, 4, rfl, okM_z, by decide, rfl, [], rfl, by omega, ?_⟩
      cases hb : (oField m 4 ([], false)).2 with
      | true =>
        rw [hb] at hemO
        have := bad 51 (by unfold encOE; rw [if_neg hk', if_pos (empAllO_false m 15 4 (by decide) h3 hemO)]) (by decide)
        conv => whnf
        refine Eq.mp ?_ this
        kernel_rfl
      | false =>
        rw [hb] at hemO
        conv => whnf
        refine ⟨_, _, rfl, rfl, b1, b2, ?_⟩
        cases hd : decide ((oField m 4 ([], false)).1 = (oField zM 4 ([], false)).1) with
        | false =>
          rw [hd] at hemO
          have := bad 51 (by unfold encOE; rw [if_neg hk', if_pos (empAllO_false m 15 4 (by decide) h3 hemO)]) (by decide)
          conv => whnf
          refine Eq.mp ?_ this
          kernel_rfl
        | true =>
          rw [hd] at hemO
          rw [hemO] at hem
          conv => whnf
          refine R_at ?_ ?_ (hR 5 ⟨by omega, hem⟩ (by omega))
          · kernel_rfl
          · rw [hs]; kernel_rfl
  · conv => whnf
    refine ⟨by decide, by decide, ?_⟩
    have hs : oS m 6 = cond (hasF m.kind 5) (oField m 5 (oS m 5)) (oS m 5) := rfl
    have hem : empAllO m 6 = (empAllO m 5 && (hasF m.kind 5 || emptyO m 5)) := rfl
    conv => whnf
    split
    · rename_i h3
      have h3 : hasF m.kind 5 = true := h3
      rw [h3, _root_.cond_true] at hs
      rw [h3, hemp] at hem
      conv => whnf
      refine ⟨m, 5, rfl, hm, by decide, rfl, _, rfl, by rw [← hs]; exact hsz 6 (by omega), ?_⟩
      conv => whnf
      refine R_at ?_ ?_ (hR 6 ⟨by omega, hem⟩ (by omega))
      · kernel_rfl
      · rw [hs]; kernel_rfl
    · rename_i h3
      have h3 : hasF m.kind 5 = false := h3
      rw [h3, _root_.cond_false] at hs
      rw [h3, hemp] at hem
      have q1 := oField_c m 5 ([], false)
      have q2 := oField_c zM 5 ([], false)
      have q3 := cM_z
      have b1 := oField_b hm 5 ([], false) okB_nil
      have b2 := oField_b okM_z 5 ([], false) okB_nil
      simp only [List.length_nil, Nat.zero_add] at q1 q2
      have hemO : emptyO m 5 = !((oField m 5 ([], false)).2 || !decide ((oField m 5 ([], false)).1 = (oField zM 5 ([], false)).1)) := rfl
      conv => whnf
      refine ⟨m, 5, rfl, hm, by decide, rfl, [], rfl, by omega, ?_⟩
      conv => whnf
      refine ⟨zM, 5, rfl, okM_z, by decide, rfl, [], rfl, by omega, ?_⟩
      cases hb : (oField m 5 ([], false)).2 with
      | true =>
        rw [hb] at hemO
        have := bad 51 (by unfold encOE; rw [if_neg hk', if_pos (empAllO_false m 15 5 (by decide) h3 hemO)]) (by decide)
        conv => whnf
        refine Eq.mp ?_ this
        kernel_rfl
      | false =>
        rw [hb] at hemO
        conv => whnf
        refine ⟨_, _, rfl, rfl, b1, b2, ?_⟩
        cases hd : decide ((oField m 5 ([], false)).1 = (oField zM 5 ([], false)).1) with
        | false =>
          rw [hd] at hemO
          have := bad 51 (by unfold encOE; rw [if_neg hk', if_pos (empAllO_false m 15 5 (by decide) h3 hemO)]) (by decide)
          conv => whnf
          refine Eq.mp ?_ this
          kernel_rfl
        | true =>
          rw [hd] at hemO
          rw [hemO] at hem
          conv => whnf
          refine R_at ?_ ?_ (hR 6 ⟨by omega, hem⟩ (by omega))
          · kernel_rfl
          · rw [hs]; kernel_rfl
  · conv => whnf
    refine ⟨by decide, by decide, ?_⟩
    have hs : oS m 7 = cond (hasF m.kind 6) (oField m 6 (oS m 6)) (oS m 6) := rfl
    have hem : empAllO m 7 = (empAllO m 6 && (hasF m.kind 6 || emptyO m 6)) := rfl
    conv => whnf
    split
    · rename_i h3
      have h3 : hasF m.kind 6 = true := h3
      rw [h3, _root_.cond_true] at hs
      rw [h3, hemp] at hem
      conv => whnf
      refine ⟨m, 6, rfl, hm, by decide, rfl, _, rfl, by rw [← hs]; exact hsz 7 (by omega), ?_⟩
      conv => whnf
      refine R_at ?_ ?_ (hR 7 ⟨by omega, hem⟩ (by omega))
      · kernel_rfl
      · rw [hs]; kernel_rfl
    · rename_i h3
      have h3 : hasF m.kind 6 = false := h3
      rw [h3, _root_.cond_false] at hs
      rw [h3, hemp] at hem
      have q1 := oField_c m 6 ([], false)
      have q2 := oField_c zM 6 ([], false)
      have q3 := cM_z
      have b1 := oField_b hm 6 ([], false) okB_nil
      have b2 := oField_b okM_z 6 ([], false) okB_nil
      simp only [List.length_nil, Nat.zero_add] at q1 q2
      have hemO : emptyO m 6 = !((oField m 6 ([], false)).2 || !decide ((oField m 6 ([], false)).1 = (oField zM 6 ([], false)).1)) := rfl
      conv => whnf
      refine ⟨m, 6, rfl, hm, by decide, rfl, [], rfl, by omega, ?_⟩
      conv => whnf
      refine ⟨zM, 6, rfl, okM_z, by decide, rfl, [], rfl, by omega, ?_⟩
      cases hb : (oField m 6 ([], false)).2 with
      | true =>
        rw [hb] at hemO
        have := bad 51 (by unfold encOE; rw [if_neg hk', if_pos (empAllO_false m 15 6 (by decide) h3 hemO)]) (by decide)
        conv => whnf
        refine Eq.mp ?_ this
        kernel_rfl
      | false =>
        rw [hb] at hemO
        conv => whnf
        refine ⟨_, _, rfl, rfl, b1, b2, ?_⟩
        cases hd : decide ((oField m 6 ([], false)).1 = (oField zM 6 ([], false)).1) with
        | false =>
          rw [hd] at hemO
          have := bad 51 (by unfold encOE; rw [if_neg hk', if_pos (empAllO_false m 15 6 (by decide) h3 hemO)]) (by decide)
          conv => whnf
          refine Eq.mp ?_ this
          kernel_rfl
        | true =>
          rw [hd] at hemO
          rw [hemO] at hem
          conv => whnf
          refine R_at ?_ ?_ (hR 7 ⟨by omega, hem⟩ (by omega))
          · kernel_rfl
          · rw [hs]; kernel_rfl
  · conv => whnf
    refine ⟨by decide, by decide, ?_⟩
    have hs : oS m 8 = cond (hasF m.kind 7) (oField m 7 (oS m 7)) (oS m 7) := rfl
    have hem : empAllO m 8 = (empAllO m 7 && (hasF m.kind 7 || emptyO m 7)) := rfl
    conv => whnf
    split
    · rename_i h3
      have h3 : hasF m.kind 7 = true := h3
      rw [h3, _root_.cond_true] at hs
      rw [h3, hemp] at hem
      conv => whnf
      refine ⟨m, 7, rfl, hm, by decide, rfl, _, rfl, by rw [← hs]; exact hsz 8 (by omega), ?_⟩
      conv => whnf
      refine R_at ?_ ?_ (hR 8 ⟨by omega, hem⟩ (by omega))
      · kernel_rfl
      · rw [hs]; kernel_rfl
    · rename_i h3
      have h3 : hasF m.kind 7 = false := h3
      rw [h3, _root_.cond_false] at hs
      rw [h3, hemp] at hem
      have q1 := oField_c m 7 ([], false)
      have q2 := oField_c zM 7 ([], false)
      have q3 := cM_z
      have b1 := oField_b hm 7 ([], false) okB_nil
      have b2 := oField_b okM_z 7 ([], false) okB_nil
      simp only [List.length_nil, Nat.zero_add] at q1 q2
      have hemO : emptyO m 7 = !((oField m 7 ([], false)).2 || !decide ((oField m 7 ([], false)).1 = (oField zM 7 ([], false)).1)) := rfl
      conv => whnf
      refine ⟨m, 7, rfl, hm, by decide, rfl, [], rfl, by omega, ?_⟩
      conv => whnf
      refine ⟨zM, 7, rfl, okM_z, by decide, rfl, [], rfl, by omega, ?_⟩
      cases hb : (oField m 7 ([], false)).2 with
      | true =>
        rw [hb] at hemO
        have := bad 51 (by unfold encOE; rw [if_neg hk', if_pos (empAllO_false m 15 7 (by decide) h3 hemO)]) (by decide)
        conv => whnf
        refine Eq.mp ?_ this
        kernel_rfl
      | false =>
        rw [hb] at hemO
        conv => whnf
        refine ⟨_, _, rfl, rfl, b1, b2, ?_⟩
        cases hd : decide ((oField m 7 ([], false)).1 = (oField zM 7 ([], false)).1) with
        | false =>
          rw [hd] at hemO
          have := bad 51 (by unfold encOE; rw [if_neg hk', if_pos (empAllO_false m 15 7 (by decide) h3 hemO)]) (by decide)
          conv => whnf
          refine Eq.mp ?_ this
          kernel_rfl
        | true =>
          rw [hd] at hemO
          rw [hemO] at hem
          conv => whnf
          refine R_at ?_ ?_ (hR 8 ⟨by omega, hem⟩ (by omega))
          · kernel_rfl
          · rw [hs]; kernel_rfl
  · conv => whnf
    refine ⟨by decide, by decide, ?_⟩
    have hs : oS m 9 = cond (hasF m.kind 8) (oField m 8 (oS m 8)) (oS m 8) := rfl
    have hem : empAllO m 9 = (empAllO m 8 && (hasF m.kind 8 || emptyO m 8)) := rfl
    conv => whnf
    split
    · rename_i h3
      have h3 : hasF m.kind 8 = true := h3
      rw [h3, _root_.cond_true] at hs
      rw [h3, hemp] at hem
      conv => whnf
      refine ⟨m, 8, rfl, hm, by decide, rfl, _, rfl, by rw [← hs]; exact hsz 9 (by omega), ?_⟩
      conv => whnf
      refine R_at ?_ ?_ (hR 9 ⟨by omega, hem⟩ (by omega))
      · kernel_rfl
      · rw [hs]; kernel_rfl
    · rename_i h3
      have h3 : hasF m.kind 8 = false := h3
      rw [h3, _root_.cond_false] at hs
      rw [h3, hemp] at hem
      have q1 := oField_c m 8 ([], false)
      have q2 := oField_c zM 8 ([], false)
      have q3 := cM_z
      have b1 := oField_b hm 8 ([], false) okB_nil
      have b2 := oField_b okM_z 8 ([], false) okB_nil
      simp only [List.length_nil, Nat.zero_add] at q1 q2
      have hemO : emptyO m 8 = !((oField m 8 ([], false)).2 || !decide ((oField m 8 ([], false)).1 = (oField zM 8 ([], false)).1)) := rfl
      conv => whnf
      refine ⟨m, 8, rfl, hm, by decide, rfl, [], rfl, by omega, ?_⟩
      conv => whnf
      refine ⟨zM, 8, rfl, okM_z, by decide, rfl, [], rfl, by omega, ?_⟩
      cases hb : (oField m 8 ([], false)).2 with
      | true =>
        rw [hb] at hemO
        have := bad 51 (by unfold encOE; rw [if_neg hk', if_pos (empAllO_false m 15 8 (by decide) h3 hemO)]) (by decide)
        conv => whnf
        refine Eq.mp ?_ this
        kernel_rfl
      | false =>
        rw [hb] at hemO
        conv => whnf
        refine ⟨_, _, rfl, rfl, b1, b2, ?_⟩
        cases hd : decide ((oField m 8 ([], false)).1 = (oField zM 8 ([], false)).1) with
        | false =>
          rw [hd] at hemO
          have := bad 51 (by unfold encOE; rw [if_neg hk', if_pos (empAllO_false m 15 8 (by decide) h3 hemO)]) (by decide)
          conv => whnf
          refine Eq.mp ?_ this
          kernel_rfl
        | true =>
          rw [hd] at hemO
          rw [hemO] at hem
          conv => whnf
          refine R_at ?_ ?_ (hR 9 ⟨by omega, hem⟩ (by omega))
          · kernel_rfl
          · rw [hs]; kernel_rfl
  · conv => whnf
    refine ⟨by decide, by decide, ?_⟩
    have hs : oS m 10 = cond (hasF m.kind 9) (oField m 9 (oS m 9)) (oS m 9) := rfl
    have hem : empAllO m 10 = (empAllO m 9 && (hasF m.kind 9 || emptyO m 9)) := rfl
    conv => whnf
    split
    · rename_i h3
      have h3 : hasF m.kind 9 = true := h3
      rw [h3, _root_.cond_true] at hs
      rw [h3, hemp] at hem
      conv => whnf
      refine ⟨m, 9, rfl, hm, by decide, rfl, _, rfl, by rw [← hs]; exact hsz 10 (by omega), ?_⟩
      conv => whnf
      refine R_at ?_ ?_ (hR 10 ⟨by omega, hem⟩ (by omega))
      · kernel_rfl
      · rw [hs]; kernel_rfl
    · rename_i h3
      have h3 : hasF m.kind 9 = false := h3
      rw [h3, _root_.cond_false] at hs
      rw [h3, hemp] at hem
      have q1 := oField_c m 9 ([], false)
      have q2 := oField_c zM 9 ([], false)
      have q3 := cM_z
      have b1 := oField_b hm 9 ([], false) okB_nil
      have b2 := oField_b okM_z 9 ([], false) okB_nil
      simp only [List.length_nil, Nat.zero_add] at q1 q2
      have hemO : emptyO m 9 = !((oField m 9 ([], false)).2 || !decide ((oField m 9 ([], false)).1 = (oField zM 9 ([], false)).1)) := rfl
      conv => whnf
      refine ⟨m, 9, rfl, hm, by decide, rfl, [], rfl, by omega, ?_⟩
      conv => whnf
      refine ⟨zM, 9, rfl, okM_z, by decide, rfl, [], rfl, by omega, ?_⟩
      cases hb : (oField m 9 ([], false)).2 with
      | true =>
        rw [hb] at hemO
        have := bad 51 (by unfold encOE; rw [if_neg hk', if_pos (empAllO_false m 15 9 (by decide) h3 hemO)]) (by decide)
        conv => whnf
        refine Eq.mp ?_ this
        kernel_rfl
      | false =>
        rw [hb] at hemO
        conv => whnf
        refine ⟨_, _, rfl, rfl, b1, b2, ?_⟩
        cases hd : decide ((oField m 9 ([], false)).1 = (oField zM 9 ([], false)).1) with
        | false =>
          rw [hd] at hemO
          have := bad 51 (by unfold encOE; rw [if_neg hk', if_pos (empAllO_false m 15 9 (by decide) h3 hemO)]) (by decide)
          conv => whnf
          refine Eq.mp ?_ this
          kernel_rfl
        | true =>
          rw [hd] at hemO
          rw [hemO] at hem
          conv => whnf
          refine R_at ?_ ?_ (hR 10 ⟨by omega, hem⟩ (by omega))
          · kernel_rfl
          · rw [hs]; kernel_rfl
  · conv => whnf
    refine ⟨by decide, by decide, ?_⟩
    have hs : oS m 11 = cond (hasF m.kind 10) (oField m 10 (oS m 10)) (oS m 10) := rfl
    have hem : empAllO m 11 = (empAllO m 10 && (hasF m.kind 10 || emptyO m 10)) := rfl
    conv => whnf
    split
    · rename_i h3
      have h3 : hasF m.kind 10 = true := h3
      rw [h3, _root_.cond_true] at hs
      rw [h3, hemp] at hem
      conv => whnf
      refine ⟨m, 10, rfl, hm, by decide, rfl, _, rfl, by rw [← hs]; exact hsz 11 (by omega), ?_⟩
      conv => whnf
      refine R_at ?_ ?_ (hR 11 ⟨by omega, hem⟩ (by omega))
      · kernel_rfl
      · rw [hs]; kernel_rfl
    · rename_i h3
      have h3 : hasF m.kind 10 = false := h3
      rw [h3, _root_.cond_false] at hs
      rw [h3, hemp] at hem
      have q1 := oField_c m 10 ([], false)
      have q2 := oField_c zM 10 ([], false)
      have q3 := cM_z
      have b1 := oField_b hm 10 ([], false) okB_nil
      have b2 := oField_b okM_z 10 ([], false) okB_nil
      simp only [List.length_nil, Nat.zero_add] at q1 q2
      have hemO : emptyO m 10 = !((oField m 10 ([], false)).2 || !decide ((oField m 10 ([], false)).1 = (oField zM 10 ([], false)).1)) := rfl
      conv => whnf
      refine ⟨m, 10, rfl, hm, by decide, rfl, [], rfl, by omega, ?_⟩
      conv => whnf
      refine ⟨zM, 10, rfl, okM_z, by decide, rfl, [], rfl, by omega, ?_⟩
      cases hb : (oField m 10 ([], false)).2 with
      | true =>
        rw [hb] at hemO
        have := bad 51 (by unfold encOE; rw [if_neg hk', if_pos (empAllO_false m 15 10 (by decide) h3 hemO)]) (by decide)
        conv => whnf
        refine Eq.mp ?_ this
        kernel_rfl
      | false =>
        rw [hb] at hemO
        conv => whnf
        refine ⟨_, _, rfl, rfl, b1, b2, ?_⟩
        cases hd : decide ((oField m 10 ([], false)).1 = (oField zM 10 ([], false)).1) with
        | false =>
          rw [hd] at hemO
          have := bad 51 (by unfold encOE; rw [if_neg hk', if_pos (empAllO_false m 15 10 (by decide) h3 hemO)]) (by decide)
          conv => whnf
          refine Eq.mp ?_ this
          kernel_rfl
        | true =>
          rw [hd] at hemO
          rw [hemO] at hem
          conv => whnf
          refine R_at ?_ ?_ (hR 11 ⟨by omega, hem⟩ (by omega))
          · kernel_rfl
          · rw [hs]; kernel_rfl
  · conv => whnf
    refine ⟨by decide, by decide, ?_⟩
    have hs : oS m 12 = cond (hasF m.kind 11) (oField m 11 (oS m 11)) (oS m 11) := rfl
    have hem : empAllO m 12 = (empAllO m 11 && (hasF m.kind 11 || emptyO m 11)) := rfl
    conv => whnf
    split
    · rename_i h3
      have h3 : hasF m.kind 11 = true := h3
      rw [h3, _root_.cond_true] at hs
      rw [h3, hemp] at hem
      conv => whnf
      refine ⟨m, 11, rfl, hm, by decide, rfl, _, rfl, by rw [← hs]; exact hsz 12 (by omega), ?_⟩
      conv => whnf
      refine R_at ?_ ?_ (hR 12 ⟨by omega, hem⟩ (by omega))
      · kernel_rfl
      · rw [hs]; kernel_rfl
    · rename_i h3
      have h3 : hasF m.kind 11 = false := h3
      rw [h3, _root_.cond_false] at hs
      rw [h3, hemp] at hem
      have q1 := oField_c m 11 ([], false)
      have q2 := oField_c zM 11 ([], false)
      have q3 := cM_z
      have b1 := oField_b hm 11 ([], false) okB_nil
      have b2 := oField_b okM_z 11 ([], false) okB_nil
      simp only [List.length_nil, Nat.zero_add] at q1 q2
      have hemO : emptyO m 11 = !((oField m 11 ([], false)).2 || !decide ((oField m 11 ([], false)).1 = (oField zM 11 ([], false)).1)) := rfl
      conv => whnf
      refine ⟨m, 11, rfl, hm, by decide, rfl, [], rfl, by omega, ?_⟩
      conv => whnf
      refine ⟨zM, 11, rfl, okM_z, by decide, rfl, [], rfl, by omega, ?_⟩
      cases hb : (oField m 11 ([], false)).2 with
      | true =>
        rw [hb] at hemO
        have := bad 51 (by unfold encOE; rw [if_neg hk', if_pos (empAllO_false m 15 11 (by decide) h3 hemO)]) (by decide)
        conv => whnf
        refine Eq.mp ?_ this
        kernel_rfl
      | false =>
        rw [hb] at hemO
        conv => whnf
        refine ⟨_, _, rfl, rfl, b1, b2, ?_⟩
        cases hd : decide ((oField m 11 ([], false)).1 = (oField zM 11 ([], false)).1) with
        | false =>
          rw [hd] at hemO
          have := bad 51 (by unfold encOE; rw [if_neg hk', if_pos (empAllO_false m 15 11 (by decide) h3 hemO)]) (by decide)
          conv => whnf
          refine Eq.mp ?_ this
          kernel_rfl
        | true =>
          rw [hd] at hemO
          rw [hemO] at hem
          conv => whnf
          refine R_at ?_ ?_ (hR 12 ⟨by omega, hem⟩ (by omega))
          · kernel_rfl
          · rw [hs]; kernel_rfl
  · conv => whnf
    refine ⟨by decide, by decide, ?_⟩
    have hs : oS m 13 = cond (hasF m.kind 12) (oField m 12 (oS m 12)) (oS m 12) := rfl
    have hem : empAllO m 13 = (empAllO m 12 && (hasF m.kind 12 || emptyO m 12)) := rfl
    conv => whnf
    split
    · rename_i h3
      have h3 : hasF m.kind 12 = true := h3
      rw [h3, _root_.cond_true] at hs
      rw [h3, hemp] at hem
      conv => whnf
      refine ⟨m, 12, rfl, hm, by decide, rfl, _, rfl, by rw [← hs]; exact hsz 13 (by omega), ?_⟩
      conv => whnf
      refine R_at ?_ ?_ (hR 13 ⟨by omega, hem⟩ (by omega))
      · kernel_rfl
      · rw [hs]; kernel_rfl
    · rename_i h3
      have h3 : hasF m.kind 12 = false := h3
      rw [h3, _root_.cond_false] at hs
      rw [h3, hemp] at hem
      have q1 := oField_c m 12 ([], false)
      have q2 := oField_c zM 12 ([], false)
      have q3 := cM_z
      have b1 := oField_b hm 12 ([], false) okB_nil
      have b2 := oField_b okM_z 12 ([], false) okB_nil
      simp only [List.length_nil, Nat.zero_add] at q1 q2
      have hemO : emptyO m 12 = !((oField m 12 ([], false)).2 || !decide ((oField m 12 ([], false)).1 = (oField zM 12 ([], false)).1)) := rfl
      conv => whnf
      refine ⟨m, 12, rfl, hm, by decide, rfl, [], rfl, by omega, ?_⟩
      conv => whnf
      refine ⟨zM, 12, rfl, okM_z, by decide, rfl, [], rfl, by omega, ?_⟩
      cases hb : (oField m 12 ([], false)).2 with
      | true =>
        rw [hb] at hemO
        have := bad 51 (by unfold encOE; rw [if_neg hk', if_pos (empAllO_false m 15 12 (by decide) h3 hemO)]) (by decide)
        conv => whnf
        refine Eq.mp ?_ this
        kernel_rfl
      | false =>
        rw [hb] at hemO
        conv => whnf
        refine ⟨_, _, rfl, rfl, b1, b2, ?_⟩
        cases hd : decide ((oField m 12 ([], false)).1 = (oField zM 12 ([], false)).1) with
        | false =>
          rw [hd] at hemO
          have := bad 51 (by unfold encOE; rw [if_neg hk', if_pos (empAllO_false m 15 12 (by decide) h3 hemO)]) (by decide)
          conv => whnf
          refine Eq.mp ?_ this
          kernel_rfl
        | true =>
          rw [hd] at hemO
          rw [hemO] at hem
          conv => whnf
          refine R_at ?_ ?_ (hR 13 ⟨by omega, hem⟩ (by omega))
          · kernel_rfl
          · rw [hs]; kernel_rfl
  · conv => whnf
    refine ⟨by decide, by decide, ?_⟩
    have hs : oS m 14 = cond (hasF m.kind 13) (oField m 13 (oS m 13)) (oS m 13) := rfl
    have hem : empAllO m 14 = (empAllO m 13 && (hasF m.kind 13 || emptyO m 13)) := rfl
    conv => whnf
    split
    · rename_i h3
      have h3 : hasF m.kind 13 = true := h3
      rw [h3, _root_.cond_true] at hs
      rw [h3, hemp] at hem
      conv => whnf
      refine ⟨m, 13, rfl, hm, by decide, rfl, _, rfl, by rw [← hs]; exact hsz 14 (by omega), ?_⟩
      conv => whnf
      refine R_at ?_ ?_ (hR 14 ⟨by omega, hem⟩ (by omega))
      · kernel_rfl
      · rw [hs]; kernel_rfl
    · rename_i h3
      have h3 : hasF m.kind 13 = false := h3
      rw [h3, _root_.cond_false] at hs
      rw [h3, hemp] at hem
      have q1 := oField_c m 13 ([], false)
      have q2 := oField_c zM 13 ([], false)
      have q3 := cM_z
      have b1 := oField_b hm 13 ([], false) okB_nil
      have b2 := oField_b okM_z 13 ([], false) okB_nil
      simp only [List.length_nil, Nat.zero_add] at q1 q2
      have hemO : emptyO m 13 = !((oField m 13 ([], false)).2 || !decide ((oField m 13 ([], false)).1 = (oField zM 13 ([], false)).1)) := rfl
      conv => whnf
      refine ⟨m, 13, rfl, hm, by decide, rfl, [], rfl, by omega, ?_⟩
      conv => whnf
      refine ⟨zM, 13, rfl, okM_z, by decide, rfl, [], rfl, by omega, ?_⟩
      cases hb : (oField m 13 ([], false)).2 with
      | true =>
        rw [hb] at hemO
        have := bad 51 (by unfold encOE; rw [if_neg hk', if_pos (empAllO_false m 15 13 (by decide) h3 hemO)]) (by decide)
        conv => whnf
        refine Eq.mp ?_ this
        kernel_rfl
      | false =>
        rw [hb] at hemO
        conv => whnf
        refine ⟨_, _, rfl, rfl, b1, b2, ?_⟩
        cases hd : decide ((oField m 13 ([], false)).1 = (oField zM 13 ([], false)).1) with
        | false =>
          rw [hd] at hemO
          have := bad 51 (by unfold encOE; rw [if_neg hk', if_pos (empAllO_false m 15 13 (by decide) h3 hemO)]) (by decide)
          conv => whnf
          refine Eq.mp ?_ this
          kernel_rfl
        | true =>
          rw [hd] at hemO
          rw [hemO] at hem
          conv => whnf
          refine R_at ?_ ?_ (hR 14 ⟨by omega, hem⟩ (by omega))
          · kernel_rfl
          · rw [hs]; kernel_rfl
  · conv => whnf
    refine ⟨by decide, by decide, ?_⟩
    have hs : oS m 15 = cond (hasF m.kind 14) (oField m 14 (oS m 14)) (oS m 14) := rfl
    have hem : empAllO m 15 = (empAllO m 14 && (hasF m.kind 14 || emptyO m 14)) := rfl
    conv => whnf
    split
    · rename_i h3
      have h3 : hasF m.kind 14 = true := h3
      rw [h3, _root_.cond_true] at hs
      rw [h3, hemp] at hem
      conv => whnf
      refine ⟨m, 14, rfl, hm, by decide, rfl, _, rfl, by rw [← hs]; exact hsz 15 (by omega), ?_⟩
      conv => whnf
      refine R_at ?_ ?_ (hR 15 ⟨by omega, hem⟩ (by omega))
      · kernel_rfl
      · rw [hs]; kernel_rfl
    · rename_i h3
      have h3 : hasF m.kind 14 = false := h3
      rw [h3, _root_.cond_false] at hs
      rw [h3, hemp] at hem
      have q1 := oField_c m 14 ([], false)
      have q2 := oField_c zM 14 ([], false)
      have q3 := cM_z
      have b1 := oField_b hm 14 ([], false) okB_nil
      have b2 := oField_b okM_z 14 ([], false) okB_nil
      simp only [List.length_nil, Nat.zero_add] at q1 q2
      have hemO : emptyO m 14 = !((oField m 14 ([], false)).2 || !decide ((oField m 14 ([], false)).1 = (oField zM 14 ([], false)).1)) := rfl
      conv => whnf
      refine ⟨m, 14, rfl, hm, by decide, rfl, [], rfl, by omega, ?_⟩
      conv => whnf
      refine ⟨zM, 14, rfl, okM_z, by decide, rfl, [], rfl, by omega, ?_⟩
      cases hb : (oField m 14 ([], false)).2 with
      | true =>
        rw [hb] at hemO
        have := bad 51 (by unfold encOE; rw [if_neg hk', if_pos (empAllO_false m 15 14 (by decide) h3 hemO)]) (by decide)
        conv => whnf
        refine Eq.mp ?_ this
        kernel_rfl
      | false =>
        rw [hb] at hemO
        conv => whnf
        refine ⟨_, _, rfl, rfl, b1, b2, ?_⟩
        cases hd : decide ((oField m 14 ([], false)).1 = (oField zM 14 ([], false)).1) with
        | false =>
          rw [hd] at hemO
          have := bad 51 (by unfold encOE; rw [if_neg hk', if_pos (empAllO_false m 15 14 (by decide) h3 hemO)]) (by decide)
          conv => whnf
          refine Eq.mp ?_ this
          kernel_rfl
        | true =>
          rw [hd] at hemO
          rw [hemO] at hem
          conv => whnf
          refine R_at ?_ ?_ (hR 15 ⟨by omega, hem⟩ (by omega))
          · kernel_rfl
          · rw [hs]; kernel_rfl
  · clear hR
    cases hb : (oS m 15).2 with
    | true =>
      have := bad 51 (by unfold encOE; rw [if_neg hk', hemp, hb]; rfl) (by decide)
      conv => whnf
      refine Eq.mp ?_ this
      kernel_rfl
    | false =>
      conv => whnf
      split
      · rename_i h3
        have h3 : (((bsA (oS m 15).1).length : Nat) : Int) > 1048576 := of_decide_eq_true h3
        rw [bsA_length] at h3
        have := bad 53 (by unfold encOE; rw [if_neg hk', hemp, hb, if_pos h3]; rfl) (by decide)
        conv => whnf
        refine Eq.mp ?_ this
        kernel_rfl
      · rename_i h3
        have h3 : ¬ (((bsA (oS m 15).1).length : Nat) : Int) > 1048576 := of_decide_eq_false h3
        rw [bsA_length] at h3
        have := good (by unfold encOE; rw [if_neg hk', hemp, hb, if_neg h3]; rfl)
        conv => whnf
        refine Eq.mp ?_ this
        kernel_rfl

set_option maxRecDepth 100000 in
theorem s17 {T : Tab} (hT : TGood Tryz.prog T) : SGood Tryz.prog 69 (pureT g17) := pureT_good g17_det fun args Q h => by
  unfold g17 at h
  split at h
  · obtain ⟨m, rfl, hm, hc, hQ⟩ := h
    have h1 := ext_good hT (s18 hT)
    have h2 := ext_good h1 (s52 h1)
    have h3 := ext_good h2 (s53 h2)
    have h4 := ext_good h3 (s54 h3)
    exact body_pure (ext_good h4 (s55 h4)) mixedT Tryz.func69 (entersOf Tryz.func69 (by kernel_rfl) rfl) 16 (f17_ok m hm hc T Q hQ 16 (by omega))
  · exact h.elim
end Go.Abs

