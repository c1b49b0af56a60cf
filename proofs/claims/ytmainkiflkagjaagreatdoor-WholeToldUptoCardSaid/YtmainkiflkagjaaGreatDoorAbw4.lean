/-
An abstract machine over values as trees: literals, stores into rows, cuts, indexes, conversions of texts.
-/
import Derived.Test.YtmainkiflkagjaaGreatDoorAbw3
import Derived.Lib.ConvBytes
import Derived.Laws.BytesArg
namespace Go.Abs
open Go
variable {P : Program} {o : Oper} {a : List AV} {H : Heap} {K E : AV → Heap → Prop}

theorem foldl_put : ∀ (l : List Value) (s off : Nat) (cs : Array Value), off + s + l.length ≤ cs.size →
    ((l.zipIdx s).foldl (fun cs x => cs.setIfInBounds (off + x.2) x.1) cs).size = cs.size ∧
    ∀ q, ((l.zipIdx s).foldl (fun cs x => cs.setIfInBounds (off + x.2) x.1) cs)[q]? = if off + s ≤ q ∧ q < off + s + l.length then l[q - (off + s)]? else cs[q]?
  | [], s, off, cs, _ => ⟨rfl, fun q => by rw [if_neg (by simp only [List.length_nil]; omega)]; rfl⟩
  | x :: r, s, off, cs, h => by
    simp only [List.length_cons] at h
    have ih := foldl_put r (s + 1) off (cs.setIfInBounds (off + s) x) (by simp; omega)
    simp only [List.zipIdx_cons, List.foldl_cons]
    refine ⟨by rw [ih.1]; simp, fun q => ?_⟩
    rw [ih.2]
    by_cases h1 : off + (s + 1) ≤ q ∧ q < off + (s + 1) + r.length
    · rw [if_pos h1, if_pos (by simp only [List.length_cons]; omega), show q - (off + s) = (q - (off + (s + 1))) + 1 by omega, List.getElem?_cons_succ]
    · rw [if_neg h1]
      by_cases h2 : q = off + s
      · subst h2
        rw [if_pos (by simp), Array.getElem?_setIfInBounds_self_of_lt (by omega)]
        simp
      · rw [Array.getElem?_setIfInBounds_ne (fun e => h2 e.symm), if_neg (by simp only [List.length_cons]; omega)]

theorem foldl_put' (v : Array Value) (off : Nat) (cs : Array Value) (h : off + v.size ≤ cs.size) :
    (v.zipIdx.foldl (fun cs x => cs.setIfInBounds (off + x.2) x.1) cs).size = cs.size ∧
    ∀ q, (v.zipIdx.foldl (fun cs x => cs.setIfInBounds (off + x.2) x.1) cs)[q]? = if off ≤ q ∧ q < off + v.size then v[q - off]? else cs[q]? := by
  have := foldl_put v.toList 0 off cs (by simpa using h)
  simp only [Nat.add_zero, Array.length_toList, Array.getElem?_toList] at this
  rw [← Array.foldl_toList, Array.toList_zipIdx]
  exact this

/-- A struct literal's cells. -/
theorem fill_sound {w : World} {M : Mut} {n : Nat} {G : Gh} (place : Nat → Option (Nat × Nat)) (pl : List (Nat × Nat)) (hp : ∀ i q, pl[i]? = some q → place i = some q) : ∀ (parts : List (Nat × Value)) (asl : List (Nat × AV)) (cv : Array Value) (cs cs' : List AV),
    parts.length = asl.length → (∀ (i : Nat) p q, parts[i]? = some p → asl[i]? = some q → p.1 = q.1 ∧ RV w M n G p.2 q.2) →
    (∀ q ∈ asl, (acells q.2).all okCell = true) → cv.size = cs.length → (∀ (i : Nat) u y, cv[i]? = some u → cs[i]? = some y → RV w M n G u y) → afill pl cs asl = some cs' →
    ∃ cv', Instr.fill place cv parts = some cv' ∧ cv'.size = cs'.length ∧ ∀ (i : Nat) u y, cv'[i]? = some u → cs'[i]? = some y → RV w M n G u y
  | [], [], cv, cs, cs', _, _, _, hl, hr, h => by
    simp only [afill, Option.some.injEq] at h
    subst h
    exact ⟨cv, rfl, hl, hr⟩
  | [], _ :: _, _, _, _, h, _, _, _, _, _ => by simp at h
  | _ :: _, [], _, _, _, h, _, _, _, _, _ => by simp at h
  | (i, v) :: parts, (i', x) :: asl, cv, cs, cs', hlen, hpr, hok, hl, hr, h => by
    obtain ⟨hi, hv⟩ := hpr 0 _ _ rfl rfl
    simp only at hi hv
    subst hi
    have hx := hok _ List.mem_cons_self
    obtain ⟨hsz, hcl⟩ := hv.cells hx
    simp only [afill] at h
    split at h
    · cases h
    · rename_i off size hpi
      split at h
      · rename_i hc
        obtain ⟨hc1, hc2⟩ := hc
        have hfp := foldl_put' v.cells off cv (by omega)
        have ih := fill_sound place pl hp parts asl (v.cells.zipIdx.foldl (fun cs x => cs.setIfInBounds (off + x.2) x.1) cv) (overAt cs off (acells x)) cs' (by simpa using hlen)
          (fun j p q e1 e2 => hpr (j + 1) p q (by simpa using e1) (by simpa using e2)) (fun q hq => hok q (List.mem_cons_of_mem _ hq)) (by rw [hfp.1, overAt_length, hl]) (fun j u y e1 e2 => by
            rw [hfp.2] at e1
            rw [overAt_get _ _ _ _ (by omega)] at e2
            by_cases hj : off ≤ j ∧ j < off + v.cells.size
            · rw [if_pos hj] at e1
              rw [if_pos (by omega)] at e2
              exact (hcl _ u y e1 e2).2
            · rw [if_neg hj] at e1
              rw [if_neg (by omega)] at e2
              exact hr j u y e1 e2) h
        obtain ⟨cv', h1, h2, h3⟩ := ih
        refine ⟨cv', ?_, h2, h3⟩
        have hne : ¬ (v.cells.size ≠ size || off + v.cells.size > cv.size) = true := by simp; omega
        simp only [Instr.fill, hp _ _ hpi, hne]
        exact h1
      · cases h

theorem places_run {fs : List Field} {pl : List (Nat × Nat)} (h : places P fs = some pl) (w : World) :
    (fs.mapM (m := Sem) fun f => do pure (f.offset, ← sizeOf f.type)).run P w = .ok pl w := by
  induction fs generalizing pl with
  | nil => simp only [places, Option.some.injEq] at h; subst h; rfl
  | cons f r ih =>
    simp only [places] at h
    split at h
    · rename_i i s hi hs
      injection h with h
      subst h
      have h1 : (do pure (f.offset, ← sizeOf f.type) : Sem (Nat × Nat)).run P w = .ok (f.offset, i.size) w := by simp [sizeOf, typeInfo, hi]
      rw [List.mapM_cons, Sem.run_bind, h1]
      simp only [Result.andThen_ok]
      rw [Sem.run_bind, ih hs]
      rfl
    · cases h

theorem opS_build {t : TypeId} {parts : Array (Nat × Operand)} {fs : Array Field} {z : AV} {pl : List (Nat × Nat)} {cs : List AV} (ho : o.op = .build t parts) (ht : P.underlying t = some (.struct fs)) (hz : zeroA P t = some z)
    (hp : places P fs.toList = some pl) (hf : afill pl (acells z) (parts.toList.map fun p => (p.1, aeval a p.2)) = some cs) (hok : ∀ p ∈ parts.toList, (acells (aeval a p.2)).all okCell = true) (hzo : (acells z).all okCell = true)
    (h : K (.agg cs) H) : OpS P o a H K E :=
  opS_same h fun Mx G w act hs htv => by
    obtain ⟨i, zv, hi, hzv, rfl⟩ := zeroA_inv hz
    have hzc := (rv_ofConst (w := w) (M := MM Mx G H) (n := H.length) (G := G) zv).cells hzo
    obtain ⟨cv', h1, h2, h3⟩ := fill_sound (w := w) (M := MM Mx G H) (n := H.length) (G := G) (fun i => pl.toArray[i]?) pl (fun i q h => by simpa using h) (parts.toList.map fun p => (p.1, act.eval p.2)) (parts.toList.map fun p => (p.1, aeval a p.2)) zv.cells _ cs (by simp)
      (fun i p q e1 e2 => by
        simp only [List.getElem?_map, Option.map_eq_some_iff] at e1 e2
        obtain ⟨y, hy, rfl⟩ := e1
        obtain ⟨y', hy', rfl⟩ := e2
        rw [hy] at hy'
        cases hy'
        exact ⟨rfl, ev htv _⟩)
      (fun q hq => by
        obtain ⟨p, hp, rfl⟩ := List.mem_map.1 hq
        exact hok p hp) hzc.1 (fun i u y e1 e2 => (hzc.2 i u y e1 e2).2) hf
    refine ⟨.agg cv', ?_, .agg _ _ _ _ h2 h3⟩
    have hm : (fs.mapM (m := Sem) fun f => do pure (f.offset, ← sizeOf f.type)).run P w = .ok pl.toArray w := by
      rw [← Array.toArray_toList (xs := fs), List.mapM_toArray, Sem.run_map, places_run hp]
      rfl
    simp only [execOp, ho, Instr.build, Sem.run_bind, run_zeroValue hi hzv, run_underlying ht, Result.andThen_ok]
    rw [hm]
    simp only [Result.andThen_ok, Array.toList_map]
    rw [h1]
    rfl

theorem opS_buildA {t e : TypeId} {len : Nat} {ei : TypeInfo} {parts : Array (Nat × Operand)} {z : AV} {cs : List AV} (ho : o.op = .build t parts) (ht : P.underlying t = some (.array len e)) (hz : zeroA P t = some z)
    (he : P.info? e = some ei) (hf : afill ((List.range len).map fun j => (j * ei.size, ei.size)) (acells z) (parts.toList.map fun p => (p.1, aeval a p.2)) = some cs) (hok : ∀ p ∈ parts.toList, (acells (aeval a p.2)).all okCell = true) (hzo : (acells z).all okCell = true)
    (h : K (.agg cs) H) : OpS P o a H K E :=
  opS_same h fun Mx G w act hs htv => by
    obtain ⟨i, zv, hi, hzv, rfl⟩ := zeroA_inv hz
    have hzc := (rv_ofConst (w := w) (M := MM Mx G H) (n := H.length) (G := G) zv).cells hzo
    obtain ⟨cv', h1, h2, h3⟩ := fill_sound (w := w) (M := MM Mx G H) (n := H.length) (G := G) (fun i => some (i * ei.size, ei.size)) _ (fun i q h => by
        rw [List.getElem?_map, Option.map_eq_some_iff] at h
        obtain ⟨y, hy, rfl⟩ := h
        have := (List.getElem?_eq_some_iff.1 hy).2
        rw [List.getElem_range] at this
        rw [this]) (parts.toList.map fun p => (p.1, act.eval p.2)) (parts.toList.map fun p => (p.1, aeval a p.2)) zv.cells _ cs (by simp)
      (fun i p q e1 e2 => by
        simp only [List.getElem?_map, Option.map_eq_some_iff] at e1 e2
        obtain ⟨y, hy, rfl⟩ := e1
        obtain ⟨y', hy', rfl⟩ := e2
        rw [hy] at hy'
        cases hy'
        exact ⟨rfl, ev htv _⟩)
      (fun q hq => by
        obtain ⟨p, hp, rfl⟩ := List.mem_map.1 hq
        exact hok p hp) hzc.1 (fun i u y e1 e2 => (hzc.2 i u y e1 e2).2) hf
    refine ⟨.agg cv', ?_, .agg _ _ _ _ h2 h3⟩
    have hsz : (sizeOf e).run P w = .ok ei.size w := by simp [sizeOf, typeInfo, he]
    simp only [execOp, ho, Instr.build, Sem.run_bind, run_zeroValue hi hzv, run_underlying ht, Result.andThen_ok, hsz, Array.toList_map]
    rw [h1]
    rfl

theorem opS_convStr {src dst e : TypeId} {x : Operand} {s : ByteArray} {u : TypeDesc} (ho : o.op = .convert src dst x) (h1 : P.underlying src = some u) (h2 : P.underlying dst = some (.slice e)) (h3 : P.underlying e = some (.int .u8))
    (hx : aeval a x = .str s) (h : K (.slice (bytesA s)) H) : OpS P o a H K E := by
  intro Mx G w act hs htv next Q hK _
  have e1 := ev htv x
  rw [hx] at e1
  have hrun := Lib.run_convert_string_bytes w src dst e s h1 h2 h3
  have hbel : RowKit.Below w.heap.size w (Lib.bytesWorld w e s) := ⟨rfl, rfl, rfl, by rw [Lib.bytesWorld_size]; omega, fun k hk => Lib.bytesWorld_at_old w e s k hk⟩
  obtain ⟨hs', hst⟩ := hs.below hbel
  have hlen : (bytesA s).length = s.size := by simp [bytesA]
  refine wp_value (v := .slice (some ⟨w.heap.size, 0, none⟩) (bytesA s).length (grownCap w s.size 0 e)) (w' := Lib.bytesWorld w e s) (by simp [execOp, ho, e1.str_inv, hrun, hlen]) (hK _ _ G _ _ hst hs' ?_ h)
  have hget : ∀ (i : Nat) el, (bytesA s)[i]? = some el → i < s.size ∧ el = [.int .u8 (s.data.toList.getD i 0).toNat] := by
    intro i el hi
    have hlt : i < s.size := by rw [← hlen]; exact (List.getElem?_eq_some_iff.1 hi).1
    refine ⟨hlt, ?_⟩
    simp only [bytesA, List.getElem?_map, Option.map_eq_some_iff] at hi
    obtain ⟨b, hb, rfl⟩ := hi
    rw [List.getD_eq_getElem?_getD, hb]
    rfl
  refine .slice _ _ w.heap.size 0 _ 1 (bytesA s) (fun i _ => .int .u8 (s.data.toList.getD i 0).toNat) (fun i el hi => by rw [(hget i el hi).2]; rfl) (fun i el j y hi hj => ?_) (fun i el j y hi hj => ?_) (by rw [hlen]; exact grownCap_ge w s.size 0 e)
  · obtain ⟨hlt, rfl⟩ := hget i el hi
    have hj0 : j = 0 := by have := (List.getElem?_eq_some_iff.1 hj).1; simpa using this
    subst hj0
    refine ⟨by simpa using Lib.bytesWorld_cell w e s i hlt, ?_, rfl⟩
    rintro (hx' | ⟨b, l, o1, hg, hH1, hbk, hmu⟩)
    · have := hs.lt _ _ hx'; omega
    · have := hs.blk_lt hg hbk; omega
  · obtain ⟨hlt, rfl⟩ := hget i el hi
    have hj0 : j = 0 := by have := (List.getElem?_eq_some_iff.1 hj).1; simpa using this
    subst hj0
    simp only [List.getElem?_cons_zero, Option.some.injEq] at hj
    subst hj
    exact .int ..

theorem opS_convBytes {src dst e : TypeId} {x : Operand} {s : ByteArray} (ho : o.op = .convert src dst x) (h1 : P.underlying src = some (.slice e)) (h2 : P.underlying dst = some .string) (h3 : P.underlying e = some (.int .u8))
    (hx : elems H (aeval a x) = some (bytesA s)) (h : K (.str s) H) : OpS P o a H K E :=
  opS_same h fun Mx G w act hs htv => by
    have hlen : (bytesA s).length = s.size := by simp [bytesA]
    obtain ⟨A, cap, hv, _, hc⟩ := elems_sound hs (ev htv x) hx
    refine ⟨.string s, ?_, .str ..⟩
    let xs : List Int := s.data.toList.map fun b => (b.toNat : Int)
    have hstr : strOfNums xs = s := by
      apply ByteArray.ext
      apply Array.ext'
      simp only [strOfNums, xs, List.map_map]
      have : ((fun n : Int => UInt8.ofNat n.toNat) ∘ fun b : UInt8 => (b.toNat : Int)) = id := by funext b; simp
      rw [this]
      simp
    by_cases hne : bytesA s = []
    · have hs0 : s = ByteArray.empty := by
        apply ByteArray.ext
        apply Array.ext'
        simpa [bytesA] using hne
      rw [hne] at hv
      simp only [execOp, ho, hv, List.length_nil]
      cases A with
      | none => simp [run_convert_bytes_nil w src e h1 h3 0 cap dst h2, hs0]
      | some ad =>
        simp only [Sem.run_bind, convert, run_underlying h1, run_underlying h2, Result.andThen_ok, run_underlying h3, Conv.bytesToString]
        simp [loadCells, loadCellsFrom, hs0]
    · obtain ⟨k, off, sz, hA, hsz, hcells⟩ := hc hne
      have hget : ∀ i, i < s.size → (bytesA s)[i]? = some [.int .u8 (s.data.toList.getD i 0).toNat] := by
        intro i hi
        have hi' : i < s.data.toList.length := by simpa using hi
        simp [bytesA, List.getElem?_map, List.getD_eq_getElem?_getD, List.getElem?_eq_getElem hi']
      have hsz1 : sz = 1 := by
        have h0 : 0 < s.size := by
          rcases Nat.eq_zero_or_pos s.size with h | h
          · exact absurd (List.eq_nil_of_length_eq_zero (by omega)) hne
          · exact h
        rw [← hsz 0 _ (hget 0 h0)]
        rfl
      subst hsz1
      have hcell : ∀ i, i < (bytesA s).length → w.cell? ⟨k, off + i, none⟩ = some (.int .u8 (xs.getD i 0)) := by
        intro i hi
        rw [hlen] at hi
        obtain ⟨u, hu, _, hr⟩ := hcells i _ 0 _ (hget i hi) rfl
        simp only [Nat.mul_one, Nat.add_zero] at hu
        rw [hu, hr.int_inv]
        have hi' : i < s.data.toList.length := by simpa using hi
        simp [xs, List.getD_eq_getElem?_getD, List.getElem?_eq_getElem hi']
      have hrun := run_convert_bytes_arg w src e h1 h3 k off (bytesA s).length cap xs (by simp [xs, bytesA]) hcell dst h2
      rw [hstr] at hrun
      simp [execOp, ho, hv, hA, hrun]


/-! ### Cuts and indexes -/
theorem opS_indexSlice {t e : TypeId} {inf : TypeInfo} {x ix : Operand} {k : IntKind} {i : Int} {es : List (List AV)} {el : List AV} (ho : o.op = .indexAddr t x ix) (ht : P.underlying t = some (.slice e)) (hi : P.info? e = some inf)
    (hx : aeval a x = .slice es) (hix : aeval a ix = .int k i) (h0 : 0 ≤ i) (h1 : i < es.length) (hel : es[i.toNat]? = some el) (hsz : el.length = inf.size) (h : K (.eptr el) H) : OpS P o a H K E :=
  opS_same h fun Mx G w act hs htv => by
    have e1 := ev htv x
    have e2 := ev htv ix
    rw [hx] at e1
    rw [hix] at e2
    generalize hv : act.eval x = v at e1
    cases e1 with
    | slice0 => simp at hel
    | slice _ _ kk off cap sz _ f hszz hc hr _ =>
      have hszeq : sz = inf.size := by rw [← hszz _ _ hel, hsz]
      subst hszeq
      refine ⟨.pointer (some ⟨kk, off + i.toNat * inf.size, none⟩), ?_, .eptr _ _ kk _ el (f i.toNat) (fun j y hj => hc _ _ j y hel hj) (fun j y hj => hr _ _ j y hel hj)⟩
      simp [execOp, ho, hv, e2.int_inv, Instr.indexAt, asIntOf, run_underlying ht, h0, h1, sizeOf, typeInfo, hi, Addr.add_lit]

theorem opS_indexRow {t e : TypeId} {inf : TypeInfo} {x ix : Operand} {k : IntKind} {i : Int} {b : Nat} {wr : Bool} {e' : Nat} {es : List (List AV)} (ho : o.op = .indexAddr t x ix) (ht : P.underlying t = some (.slice e)) (hi : P.info? e = some inf)
    (hH : H[b]? = some (.row wr e' inf.size es)) (hix : aeval a ix = .int k i) (h0 : 0 ≤ i) :
    (aeval a x = .row b → i < es.length → K (.rptr b i.toNat 0) H → OpS P o a H K E) ∧
    (∀ off n, aeval a x = .srow b off n → i < n → K (.rptr b (off + i.toNat) 0) H → OpS P o a H K E) := by
  constructor
  · intro hx h1 h
    refine opS_same h fun Mx G w act hs htv => ?_
    have e1 := ev htv x
    have e2 := ev htv ix
    rw [hx] at e1
    rw [hix] at e2
    obtain ⟨_, hle, hrow⟩ := hs.obj b _ hH
    rcases hrow with ⟨rfl, A, hG⟩ | ⟨g, cap, cur, hG, hk, _⟩
    · simp at h1; omega
    · refine ⟨.pointer (some ⟨g, i.toNat * inf.size, none⟩), ?_, .rptr _ _ _ _ _ _ e1.row_lt rfl (fun l hl => by rw [hG] at hl; cases hl; exact ⟨_, _, g, rfl, rfl, rfl⟩)⟩
      simp [execOp, ho, e2.int_inv, e1.row_inv hG, Instr.indexAt, asIntOf, run_underlying ht, h0, h1, sizeOf, typeInfo, hi, Addr.add_lit]
  · intro off n hx h1 h
    refine opS_same h fun Mx G w act hs htv => ?_
    have e1 := ev htv x
    have e2 := ev htv ix
    rw [hx] at e1
    rw [hix] at e2
    have hb : b < H.length := (List.getElem?_eq_some_iff.1 hH).1
    obtain ⟨_, hle, hrow⟩ := hs.obj b _ hH
    rcases hrow with ⟨rfl, A, hG⟩ | ⟨g, cap, cur, hG, hk, _⟩
    · obtain ⟨A', cap', _, hl, _, _⟩ := e1.srow_inv hG
      omega
    · obtain ⟨A', cap', hv, hl, _, hA⟩ := e1.srow_inv hG
      have hA' := hA (by omega)
      simp only [Option.map_some, Addr.add_lit, Nat.zero_add] at hA'
      refine ⟨.pointer (some ⟨g, (off + i.toNat) * inf.size, none⟩), ?_, .rptr _ _ _ _ _ _ hb rfl (fun l hl => by rw [hG] at hl; cases hl; exact ⟨_, _, g, rfl, rfl, rfl⟩)⟩
      simp [execOp, ho, e2.int_inv, hv, hA', Instr.indexAt, asIntOf, run_underlying ht, h0, h1, sizeOf, typeInfo, hi, Addr.add_lit, Nat.add_mul]

theorem opS_indexArr {t e : TypeId} {inf : TypeInfo} {x ix : Operand} {k : IntKind} {i : Int} {n : Nat} (ho : o.op = .indexAddr t x ix) (ht : P.underlying t = some (.array n e)) (hi : P.info? e = some inf)
    (hix : aeval a ix = .int k i) (h0 : 0 ≤ i) (h1 : i < n) :
    (∀ b off, aeval a x = .ptr b off → live H (.ptr b off) = true → K (.ptr b (off + i.toNat * inf.size)) H → OpS P o a H K E) ∧
    (∀ cs, aeval a x = .eptr cs → K (.eptr (cs.drop (i.toNat * inf.size))) H → OpS P o a H K E) := by
  constructor
  · intro b off hx hl h
    refine opS_same h fun Mx G w act hs htv => ?_
    have e1 := ev htv x
    have e2 := ev htv ix
    rw [hx] at e1
    rw [hix] at e2
    simp only [live] at hl
    split at hl
    · rename_i cs hH
      obtain ⟨kk, cv, tt, hG, _⟩ := hs.obj b _ hH
      refine ⟨.pointer (some ⟨kk, off + i.toNat * inf.size, none⟩), ?_, .ptr _ _ _ _ _ e1.ptr_lt rfl (fun l hl => by rw [hG] at hl; cases hl; exact ⟨kk, rfl, rfl⟩)⟩
      simp [execOp, ho, e2.int_inv, e1.ptr_inv hG, Instr.indexAt, Instr.sureAddr, asIntOf, run_underlying ht, h0, h1, sizeOf, typeInfo, hi, Addr.add_lit]
    · cases hl
  · intro cs hx h
    refine opS_same h fun Mx G w act hs htv => ?_
    have e1 := ev htv x
    have e2 := ev htv ix
    rw [hx] at e1
    rw [hix] at e2
    obtain ⟨kk, off, f, hv, hc, hr⟩ := e1.eptr_inv
    refine ⟨.pointer (some ⟨kk, off + i.toNat * inf.size, none⟩), ?_, .eptr _ _ kk _ _ (fun j => f (i.toNat * inf.size + j)) (fun j y hj => ?_) (fun j y hj => ?_)⟩
    · simp [execOp, ho, e2.int_inv, hv, Instr.indexAt, Instr.sureAddr, asIntOf, run_underlying ht, h0, h1, sizeOf, typeInfo, hi, Addr.add_lit]
    · rw [List.getElem?_drop] at hj; rw [Nat.add_assoc]; exact hc _ _ hj
    · rw [List.getElem?_drop] at hj; exact hr _ _ hj

theorem opS_indexStr {t : TypeId} {x ix : Operand} {k : IntKind} {i : Int} {s : ByteArray} {b : UInt8} (ho : o.op = .index t x ix) (ht : P.underlying t = some .string) (hx : aeval a x = .str s) (hix : aeval a ix = .int k i)
    (h0 : 0 ≤ i) (hb : s[i.toNat]? = some b) (h : K (.int .u8 b.toNat) H) : OpS P o a H K E :=
  opS_same h fun Mx G w act hs htv => by
    have e1 := ev htv x
    have e2 := ev htv ix
    rw [hx] at e1
    rw [hix] at e2
    refine ⟨_, ?_, .int ..⟩
    simp [execOp, ho, e1.str_inv, e2.int_inv, Instr.index, asIntOf, run_underlying ht, h0, hb]

theorem opS_indexAgg {t e : TypeId} {x ix : Operand} {k : IntKind} {i : Int} {n : Nat} {cs : List AV} {ag : Bool} {sz : Nat} (ho : o.op = .index t x ix) (ht : P.underlying t = some (.array n e)) (hx : aeval a x = .agg cs) (hix : aeval a ix = .int k i)
    (h0 : 0 ≤ i) (h1 : i < n) (hty : tyOf P e = some (ag, sz)) :
    (ag = true → i.toNat * sz + sz ≤ cs.length → K (.agg ((cs.drop (i.toNat * sz)).take sz)) H → OpS P o a H K E) ∧
    (∀ c r, ag = false → cs.drop (i.toNat * sz) = c :: r → K c H → OpS P o a H K E) := by
  constructor
  · rintro rfl hm h
    refine opS_same h fun Mx G w act hs htv => ?_
    have e1 := ev htv x
    have e2 := ev htv ix
    rw [hx] at e1
    rw [hix] at e2
    obtain ⟨vs, hv, hl, hc⟩ := e1.agg_inv
    obtain ⟨v, hr, hrv⟩ := (run_part (P := P) (t := e) hl hc (i.toNat * sz)).1 sz hty hm
    exact ⟨v, by simp [execOp, ho, hv, e2.int_inv, Instr.index, asIntOf, run_underlying ht, h0, h1, (run_isAgg hty w).2, hr], hrv⟩
  · rintro c r rfl hd h
    refine opS_same h fun Mx G w act hs htv => ?_
    have e1 := ev htv x
    have e2 := ev htv ix
    rw [hx] at e1
    rw [hix] at e2
    obtain ⟨vs, hv, hl, hc⟩ := e1.agg_inv
    obtain ⟨v, hr, hrv⟩ := (run_part (P := P) (t := e) hl hc (i.toNat * sz)).2 sz c r hty hd
    exact ⟨v, by simp [execOp, ho, hv, e2.int_inv, Instr.index, asIntOf, run_underlying ht, h0, h1, (run_isAgg hty w).2, hr], hrv⟩

end Go.Abs

/-
An abstract machine over values as trees: cuts, stores into rows, slice literals.
-/
namespace Go.Abs
open Go
variable {P : Program} {o : Oper} {a : List AV} {H : Heap} {K E : AV → Heap → Prop}

theorem bound_inv {w : World} {M : Mut} {n : Nat} {G : Gh} {act : Act} (ht : TV w M n G act.tmps a) {x : Option Operand} {l : Option Int} (h : bound (x.map (aeval a)) = some l) :
    (x = none ∧ l = none) ∨ ∃ y k i, x = some y ∧ l = some i ∧ act.eval y = .int k i := by
  cases x with
  | none => simp only [Option.map_none, bound, Option.some.injEq] at h; exact .inl ⟨rfl, h.symm⟩
  | some y =>
    simp only [Option.map_some] at h
    have hy := ev ht y
    generalize aeval a y = z at h hy
    cases z <;> simp only [bound] at h <;> first | cases h | skip
    rename_i k i
    exact .inr ⟨y, k, i, rfl, rfl, hy.int_inv⟩

theorem run_bounds {w : World} {M : Mut} {n : Nat} {G : Gh} {act : Act} (ht : TV w M n G act.tmps a) {lo hi : Option Operand} {l h : Option Int} (hl : bound (lo.map (aeval a)) = some l) (hh : bound (hi.map (aeval a)) = some h)
    {len cap : Nat} (hok : boundsOk len l h) (hcap : len ≤ cap) (isS : Bool) :
    (Instr.sliceBounds isS len cap (lo.map act.eval) (hi.map act.eval) none).run P w = .ok ((l.map Int.toNat).getD 0, (h.map Int.toNat).getD len, cap) w ∧
      (l.map Int.toNat).getD 0 ≤ (h.map Int.toNat).getD len ∧ (h.map Int.toNat).getD len ≤ len := by
  rcases bound_inv ht hl with ⟨rfl, rfl⟩ | ⟨y, k, i, rfl, rfl, ey⟩ <;> rcases bound_inv ht hh with ⟨rfl, rfl⟩ | ⟨z, k', j, rfl, rfl, ez⟩
  · simp [Instr.sliceBounds]
  · simp only [boundsOk] at hok
    have h1 : 0 ≤ j ∧ j ≤ (cap : Int) := by omega
    simp [Instr.sliceBounds, ez, Instr.sliceBound, asIntOf, h1.1, h1.2]
    omega
  · simp only [boundsOk] at hok
    have h1 : 0 ≤ i ∧ i ≤ (len : Int) := by omega
    simp [Instr.sliceBounds, ey, Instr.sliceBound, asIntOf, h1.1, h1.2]
    try omega
  · simp only [boundsOk] at hok
    have h1 : 0 ≤ j ∧ j ≤ (cap : Int) := by omega
    have h2 : 0 ≤ i ∧ i ≤ ((j.toNat : Nat) : Int) := by omega
    simp [Instr.sliceBounds, ey, ez, Instr.sliceBound, asIntOf, h1.1, h1.2, h2.1]
    exact ⟨fun h => absurd h (by omega), by omega, by omega⟩

theorem cutList_eq {α : Type} (es : List α) {l h : Option Int} (_hok : boundsOk es.length l h) :
    cutList es (l.map Int.toNat) (h.map Int.toNat) = (es.drop ((l.map Int.toNat).getD 0)).take ((h.map Int.toNat).getD es.length - (l.map Int.toNat).getD 0) := by
  cases l <;> cases h
  · simp [cutList]
  · simp [cutList]
  · simp only [cutList, Option.map_some, Option.map_none, Option.getD_some, Option.getD_none]
    rw [List.take_of_length_le (by simp)]
  · simp [cutList]

theorem opS_sliceStr {t : TypeId} {x : Operand} {lo hi : Option Operand} {l h : Option Int} {s : ByteArray} (ho : o.op = .slice t x lo hi none) (ht : P.underlying t = some .string) (hx : aeval a x = .str s)
    (hl : bound (lo.map (aeval a)) = some l) (hh : bound (hi.map (aeval a)) = some h) (hok : boundsOk s.size l h) (hk : K (.str (s.extract ((l.map Int.toNat).getD 0) ((h.map Int.toNat).getD s.size))) H) : OpS P o a H K E :=
  opS_same hk fun Mx G w act hs htv => by
    have e1 := ev htv x
    rw [hx] at e1
    obtain ⟨hr, _, _⟩ := run_bounds (P := P) (w := w) htv hl hh hok (Nat.le_refl _) false
    refine ⟨_, ?_, .str ..⟩
    simp [execOp, ho, e1.str_inv, Instr.sliceAt, Instr.slice, run_underlying ht, hr]

/-- A slice that is cut. -/
theorem run_slice {t e : TypeId} {w : World} {act : Act} {M : Mut} {n : Nat} {G : Gh} (htv : TV w M n G act.tmps a) (ht : P.underlying t = some (.slice e)) {i : TypeInfo} (hi' : P.info? e = some i) {lo hi : Option Operand} {l h : Option Int}
    (hl : bound (lo.map (aeval a)) = some l) (hh : bound (hi.map (aeval a)) = some h) {A : Option Addr} {len cap : Nat} (hok : boundsOk len l h) (hcap : len ≤ cap) :
    (Instr.sliceAt t (.slice A len cap) (lo.map act.eval) (hi.map act.eval) none).run P w =
      .ok (.slice (if cap = (l.map Int.toNat).getD 0 then A else A.map (·.add ((l.map Int.toNat).getD 0 * i.size))) ((h.map Int.toNat).getD len - (l.map Int.toNat).getD 0) (cap - (l.map Int.toNat).getD 0)) w := by
  obtain ⟨hr, _, _⟩ := run_bounds (P := P) (w := w) htv hl hh hok hcap true
  simp [Instr.sliceAt, Instr.slice, run_underlying ht, hr, sizeOf, typeInfo, hi']

theorem opS_sliceZ {t e : TypeId} {i : TypeInfo} {x : Operand} {lo hi : Option Operand} {l h : Option Int} (ho : o.op = .slice t x lo hi none) (ht : P.underlying t = some (.slice e)) (hi' : P.info? e = some i) (hx : aeval a x = .zslice)
    (hl : bound (lo.map (aeval a)) = some l) (hh : bound (hi.map (aeval a)) = some h) (hok : boundsOk 0 l h) (hk : K .zslice H) : OpS P o a H K E :=
  opS_same hk fun Mx G w act hs htv => by
    have e1 := ev htv x
    rw [hx] at e1
    obtain ⟨A, hA⟩ := e1.zslice_inv
    obtain ⟨_, h1, h2⟩ := run_bounds (P := P) (w := w) htv hl hh hok (Nat.le_refl 0) true
    have hz : (l.map Int.toNat).getD 0 = 0 ∧ (h.map Int.toNat).getD 0 = 0 := by omega
    refine ⟨_, by simp only [execOp, ho, hA, Sem.run_bind, Option.map_none, run_slice (P := P) htv ht hi' hl hh hok (Nat.le_refl 0)]; rfl, ?_⟩
    rw [hz.1, hz.2]
    exact .zslice ..

theorem opS_slice {t e : TypeId} {i : TypeInfo} {x : Operand} {lo hi : Option Operand} {l h : Option Int} {es : List (List AV)} (ho : o.op = .slice t x lo hi none) (ht : P.underlying t = some (.slice e)) (hi' : P.info? e = some i) (hx : aeval a x = .slice es)
    (hsz : ∀ el ∈ es, el.length = i.size)
    (hl : bound (lo.map (aeval a)) = some l) (hh : bound (hi.map (aeval a)) = some h) (hok : boundsOk es.length l h) (hk : K (.slice (cutList es (l.map Int.toNat) (h.map Int.toNat))) H) : OpS P o a H K E :=
  opS_same hk fun Mx G w act hs htv => by
    have e1 := ev htv x
    rw [hx] at e1
    rw [cutList_eq es hok]
    generalize hv : act.eval x = v at e1
    have key : ∀ A cap, v = .slice A es.length cap → es.length ≤ cap → (execOp act.eval o).run P w = .ok (.value (.slice (if cap = (l.map Int.toNat).getD 0 then A else A.map (·.add ((l.map Int.toNat).getD 0 * i.size))) ((h.map Int.toNat).getD es.length - (l.map Int.toNat).getD 0) (cap - (l.map Int.toNat).getD 0))) w := by
      intro A cap hA hcap
      simp only [execOp, ho, hv, hA, Sem.run_bind, Option.map_none, run_slice (P := P) htv ht hi' hl hh hok hcap]
      rfl
    obtain ⟨_, h1, h2⟩ := run_bounds (P := P) (w := w) htv hl hh hok (Nat.le_refl _) true
    generalize hL : (l.map Int.toNat).getD 0 = L at *
    generalize hR : (h.map Int.toNat).getD es.length = R at *
    have hlen : ((es.drop L).take (R - L)).length = R - L := by simp; omega
    cases e1 with
    | slice0 _ _ A cap =>
      refine ⟨_, key A cap rfl (by simp), ?_⟩
      have : R - L = 0 := by simp at h2; omega
      rw [this]
      simp only [List.drop_nil, List.take_nil]
      exact .slice0 ..
    | slice _ _ k off cap sz _ f hszz hc hr hcap =>
      refine ⟨_, key _ cap rfl hcap, ?_⟩
      by_cases hz : R - L = 0
      · rw [hz]
        simp only [List.take_zero]
        exact .slice0 ..
      · have hne : ¬ cap = L := by omega
        rw [if_neg hne]
        simp only [Option.map_some, Addr.add_lit]
        have hget : ∀ (q : Nat) el, ((es.drop L).take (R - L))[q]? = some el → es[L + q]? = some el := by
          intro q el hq
          have hq' : q < R - L := by rw [← hlen]; exact (List.getElem?_eq_some_iff.1 hq).1
          rw [List.getElem?_take_of_lt hq', List.getElem?_drop] at hq
          exact hq
        have hszeq : sz = i.size := by
          have hel : es[L]? = some (es[L]'(by omega)) := List.getElem?_eq_getElem (by omega)
          rw [← hszz _ _ hel, hsz _ (List.getElem_mem _)]
        subst hszeq
        have hfin : RV w (MM Mx G H) H.length G (.slice (some ⟨k, off + L * i.size, none⟩) ((es.drop L).take (R - L)).length (cap - L)) (.slice ((es.drop L).take (R - L))) :=
          .slice _ _ k (off + L * i.size) (cap - L) i.size _ (fun q j => f (L + q) j) (fun q el hq => hszz _ _ (hget q el hq))
            (fun q el j y hq hj => by have := hc _ _ j y (hget q el hq) hj; rwa [Nat.add_mul, ← Nat.add_assoc] at this) (fun q el j y hq hj => hr _ _ j y (hget q el hq) hj) (by rw [hlen]; omega)
        rw [hlen] at hfin
        exact hfin

theorem opS_sliceRow {t e : TypeId} {i : TypeInfo} {x : Operand} {lo hi : Option Operand} {l h : Option Int} {b : Nat} {wr : Bool} {e' : Nat} {es : List (List AV)} (ho : o.op = .slice t x lo hi none) (ht : P.underlying t = some (.slice e)) (hi' : P.info? e = some i)
    (hH : H[b]? = some (.row wr e' i.size es)) (hl : bound (lo.map (aeval a)) = some l) (hh : bound (hi.map (aeval a)) = some h) :
    (aeval a x = .row b → boundsOk es.length l h → K (.srow b ((l.map Int.toNat).getD 0) ((h.map Int.toNat).getD es.length - (l.map Int.toNat).getD 0)) H → OpS P o a H K E) ∧
    (∀ off n, aeval a x = .srow b off n → boundsOk n l h → K (.srow b (off + (l.map Int.toNat).getD 0) ((h.map Int.toNat).getD n - (l.map Int.toNat).getD 0)) H → OpS P o a H K E) := by
  have hb : b < H.length := (List.getElem?_eq_some_iff.1 hH).1
  constructor
  · intro hx hok hk
    refine opS_same hk fun Mx G w act hs htv => ?_
    have e1 := ev htv x
    rw [hx] at e1
    obtain ⟨_, hle, hrow⟩ := hs.obj b _ hH
    obtain ⟨_, h1, h2⟩ := run_bounds (P := P) (w := w) htv hl hh hok (Nat.le_refl _) true
    rcases hrow with ⟨rfl, A, hG⟩ | ⟨g, cap, cur, hG, hk', h3, _⟩
    · have hok' : boundsOk 0 l h := hok
      refine ⟨_, by simp only [execOp, ho, e1.row_inv hG, Sem.run_bind, Option.map_none, run_slice (P := P) htv ht hi' hl hh hok' (Nat.le_refl 0)]; rfl, .srow _ _ _ _ _ _ hb rfl (fun l' hl' => ?_)⟩
      rw [hG] at hl'
      cases hl'
      exact ⟨A, 0, 0, _, _, _, _, rfl, rfl, by simp at h1 h2 ⊢; omega, by simp at h1 h2 ⊢; omega, fun h => by simp at h1 h2 h; omega⟩
    · refine ⟨_, by simp only [execOp, ho, e1.row_inv hG, Sem.run_bind, Option.map_none, run_slice (P := P) htv ht hi' hl hh hok h3]; rfl, .srow _ _ _ _ _ _ hb rfl (fun l' hl' => ?_)⟩
      rw [hG] at hl'
      cases hl'
      exact ⟨_, _, _, _, _, _, _, rfl, rfl, by omega, by omega, fun h => by rw [if_neg (by omega)]⟩
  · intro off n hx hok hk
    refine opS_same hk fun Mx G w act hs htv => ?_
    have e1 := ev htv x
    rw [hx] at e1
    obtain ⟨_, hle, hrow⟩ := hs.obj b _ hH
    obtain ⟨_, h1, h2⟩ := run_bounds (P := P) (w := w) htv hl hh hok (Nat.le_refl _) true
    have key : ∀ A len cap sz ow, G b = some (.row (.slice A len cap) sz ow) → sz = i.size → ∃ v, (execOp act.eval o).run P w = .ok (.value v) w ∧ RV w (MM Mx G H) H.length G v (.srow b (off + (l.map Int.toNat).getD 0) ((h.map Int.toNat).getD n - (l.map Int.toNat).getD 0)) := by
      intro A len cap sz ow hG hsz
      subst hsz
      obtain ⟨A', cap', hv, hl', hcp, hA⟩ := e1.srow_inv hG
      refine ⟨_, by simp only [execOp, ho, hv, Sem.run_bind, Option.map_none, run_slice (P := P) htv ht hi' hl hh hok hcp]; rfl, .srow _ _ _ _ _ _ hb rfl (fun l' hl'' => ?_)⟩
      rw [hG] at hl''
      cases hl''
      refine ⟨_, _, _, _, _, _, _, rfl, rfl, by omega, by omega, fun hpos => ?_⟩
      rw [if_neg (by omega), hA (by omega)]
      cases A with
      | none => rfl
      | some ad =>
        simp only [Option.map_some, Option.some.injEq]
        generalize (l.map Int.toNat).getD 0 = L
        simp only [Addr.add, Nat.add_mul]
        by_cases q1 : off * i.size = 0 <;> by_cases q2 : L * i.size = 0 <;> simp [q1, q2, Nat.add_assoc]
    rcases hrow with ⟨rfl, A, hG⟩ | ⟨g, cap, cur, hG, hk', h3, _⟩
    · exact key _ _ _ _ _ hG rfl
    · exact key _ _ _ _ _ hG rfl

end Go.Abs

/-
An abstract machine over values as trees: stores into rows, slice literals.
-/
namespace Go.Abs
open Go
variable {P : Program} {o : Oper} {a : List AV} {H : Heap} {K E : AV → Heap → Prop}

theorem setRow_get {cv : Array Value} {vs : List Value} {off n : Nat} (hn : vs.length = n) (hlt : off + n ≤ cv.size) :
    ((cv.toList.take off ++ vs ++ cv.toList.drop (off + vs.length)).toArray).size = cv.size ∧
    ∀ i, ((cv.toList.take off ++ vs ++ cv.toList.drop (off + vs.length)).toArray)[i]? = if off ≤ i ∧ i < off + n then vs[i - off]? else cv[i]? := by
  constructor
  · simp only [List.size_toArray, List.length_append, List.length_take, List.length_drop, Array.length_toList]
    omega
  · intro i
    simp only [List.getElem?_toArray, List.append_assoc]
    by_cases hi : i < off
    · rw [List.getElem?_append_left (by simp; omega), List.getElem?_take_of_lt hi, if_neg (by omega)]
      simp
    · rw [List.getElem?_append_right (by simp; omega)]
      simp only [List.length_take, Array.length_toList]
      rw [Nat.min_eq_left (by omega)]
      by_cases hi2 : i < off + n
      · rw [List.getElem?_append_left (by omega), if_pos (by omega)]
      · rw [List.getElem?_append_right (by omega), if_neg (by omega)]
        simp only [List.getElem?_drop, Array.getElem?_toList]
        congr 1
        omega

theorem opS_storeR {t : TypeId} {x v : Operand} {b i c n : Nat} {ag : Bool} {e sz : Nat} {es : List (List AV)} {el : List AV} (ho : o.op = .store t x v) (hx : aeval a x = .rptr b i c) (ht : tyOf P t = some (ag, n))
    (hcell : (acells (aeval a v)).all okCell = true)
    (hH : (frzs H (acells (aeval a v))).2[b]? = some (.row true e sz es)) (h2 : (frzs H (acells (aeval a v))).1.length = n)
    (hel : es[i]? = some el) (h3 : c + n ≤ el.length)
    (h : K (.tuple []) ((frzs H (acells (aeval a v))).2.set b (.row true e sz (es.set i (overAt el c (frzs H (acells (aeval a v))).1))))) : OpS P o a H K E := by
  intro Mx G w act hs htv next Q hK _
  obtain ⟨hsz, hcl⟩ := (ev htv v).cells hcell
  obtain ⟨hs1, hst1, hlen1, hl1, hr1⟩ := frzs_sound (acells (aeval a v)) H (act.eval v).cells.toList hs (by simpa using hsz) (fun i u y e1 e2 => (hcl i u y (by simpa using e1) e2).2)
  generalize hvs : (frzs H (acells (aeval a v))).1 = vs at *
  generalize hH1 : (frzs H (acells (aeval a v))).2 = H1 at *
  obtain ⟨h0, hle, hrow⟩ := hs1.obj b _ hH
  have hxv := ev htv x
  rw [hx] at hxv
  rcases hrow with ⟨rfl, A, hG⟩ | ⟨g, cap, cur, hG, hk, hc1, hc2, hc3, hc4, hc5⟩
  · simp at hel
  · have hxe := hxv.rptr_inv hG
    have hi : i < es.length := (List.getElem?_eq_some_iff.1 hel).1
    have hlel := hle i el hel
    have hfit : i * sz + c + n ≤ cur.size := by
      rw [hc3]
      have : (i + 1) * sz ≤ cap * sz := Nat.mul_le_mul_right _ (by omega)
      rw [Nat.add_mul] at this
      omega
    have hr := run_isAgg (P := P) ht w
    have hall : ∀ u ∈ (act.eval v).cells.toList, u.oneCell' = true := fun u hu => by
      obtain ⟨q, hq, rfl⟩ := List.mem_iff_getElem.1 hu
      simp only [Array.length_toList] at hq
      exact (hcl q _ _ (by simp [Array.getElem?_eq_getElem hq]) (List.getElem?_eq_getElem (by omega))).1
    have hne : (act.eval v).cells.size = n := by omega
    have hrun := run_storeCells_at P g (i * sz + c) e (act.eval v).cells.toList 0 cur w hk (by simp; omega) hall
    simp only [Nat.add_zero] at hrun
    obtain ⟨hsz', hget⟩ := setRow_get (cv := cur) (vs := (act.eval v).cells.toList) (off := i * sz + c) (n := n) (by simpa using hne) hfit
    generalize hcur' : (cur.toList.take (i * sz + c) ++ (act.eval v).cells.toList ++ cur.toList.drop (i * sz + c + (act.eval v).cells.toList.length)).toArray = cur' at *
    have hesl : (es.set i (overAt el c vs)).length = es.length := by simp
    have hput := hs1.put (w' := w.setRow g cur') (o' := .row true e sz (es.set i (overAt el c vs))) hG hH rfl rfl rfl rfl (by simp) (fun k1 hk1 => setRow_other w g k1 _ hk1) (fun _ _ => .inl rfl) (fun q u _ hm => absurd (.inl rfl) hm)
      (fun hcellp => by
        refine ⟨h0, fun q el' hq => ?_, .inr ⟨g, cap, cur', by rw [hesl], setRow_heap w g cur cur' e _ hk, by rw [hesl]; exact hc1, hc2, by rw [hsz', hc3], fun q u hu hq => ?_, fun q el' j y u e1 e2 e3 => ?_⟩⟩
        · by_cases hqi : q = i
          · subst hqi
            rw [List.getElem?_set_self hi] at hq
            cases hq
            rw [overAt_length, hlel]
          · rw [List.getElem?_set_ne (fun e => hqi e.symm)] at hq
            exact hle q el' hq
        · rw [hget] at hu
          rw [hesl] at hq
          split at hu
          · exact hall u (List.mem_of_getElem? hu)
          · exact hc4 q u hu hq
        · rw [hget] at e3
          by_cases hqi : q = i
          · subst hqi
            rw [List.getElem?_set_self hi] at e1
            cases e1
            have hj : j < sz := by rw [← hlel, ← overAt_length vs el c]; exact (List.getElem?_eq_some_iff.1 e2).1
            rw [overAt_get _ _ _ _ (by omega), h2] at e2
            by_cases hjc : c ≤ j ∧ j < c + n
            · rw [if_pos hjc] at e2
              rw [if_pos (by omega), show q * sz + j - (q * sz + c) = j - c by omega] at e3
              exact (hr1 _ u y e3 e2).mono hcellp (Nat.le_refl _) (fun _ _ _ h => h)
            · rw [if_neg hjc] at e2
              rw [if_neg (by omega)] at e3
              exact (hc5 q el j y u hel e2 e3).mono hcellp (Nat.le_refl _) (fun _ _ _ h => h)
          · rw [List.getElem?_set_ne (fun e => hqi e.symm)] at e1
            have hq : q < es.length := (List.getElem?_eq_some_iff.1 e1).1
            have hj : j < sz := by rw [← hle q el' e1]; exact (List.getElem?_eq_some_iff.1 e2).1
            have hout : ¬ (i * sz + c ≤ q * sz + j ∧ q * sz + j < i * sz + c + n) := by
              intro hh
              rcases Nat.lt_or_gt_of_ne hqi with hlt | hgt
              · have : (q + 1) * sz ≤ i * sz := Nat.mul_le_mul_right _ (by omega)
                rw [Nat.add_mul] at this
                omega
              · have : (i + 1) * sz ≤ q * sz := Nat.mul_le_mul_right _ (by omega)
                rw [Nat.add_mul] at this
                omega
            rw [if_neg hout] at e3
            exact (hc5 q el' j y u e1 e2 e3).mono hcellp (Nat.le_refl _) (fun _ _ _ h => h))
    have hgo := hK _ _ G _ undef (hst1.trans (by omega) hput.2) hput.1 (.tuple _ _ _ _ rfl (fun i v x h => by simp at h)) h
    have hex : (execOp act.eval o).run P w = .ok .skip (w.setRow g cur') := by
      simp [execOp, ho, hxe, Instr.storeAt, Instr.sureAddr, storeVar, hr.2, hne, hrun]
    simp only [Oper.wp, hex, Oper.upon]
    exact hgo

/-! ### Slice literals -/
theorem frzParts_sound {Mx : Mut} {G : Gh} {w : World} : ∀ (asl : List (Nat × AV)) (H : Heap) (ps : List (Nat × Value)), Sim Mx G H w → ps.length = asl.length →
    (∀ (i : Nat) p q, ps[i]? = some p → asl[i]? = some q → p.1 = q.1 ∧ RV w (MM Mx G H) H.length G p.2 q.2) → (∀ q ∈ asl, (acells q.2).all okCell = true) →
    Sim Mx G (frzParts H asl).2 w ∧ Step H.length Mx G H w G (frzParts H asl).2 w ∧ (frzParts H asl).2.length = H.length ∧ (frzParts H asl).1.length = asl.length ∧
      ∀ (i : Nat) p q, ps[i]? = some p → (frzParts H asl).1[i]? = some q → p.1 = q.1 ∧ p.2.cells.size = q.2.length ∧
        ∀ (j : Nat) u y, p.2.cells[j]? = some u → q.2[j]? = some y → RV w (MM Mx G (frzParts H asl).2) 0 G0 u y
  | [], H, ps, hs, _, _, _ => ⟨hs, Step.refl, rfl, rfl, fun i p q _ h => by simp [frzParts] at h⟩
  | q :: asl, H, [], hs, hl, _, _ => by simp at hl
  | (i0, x) :: asl, H, (i1, v) :: ps, hs, hl, hx, hok => by
    obtain ⟨hi, hv⟩ := hx 0 _ _ rfl rfl
    simp only at hi hv
    obtain ⟨hsz, hcl⟩ := hv.cells (hok _ List.mem_cons_self)
    obtain ⟨h1, h2, h3, h4, h5⟩ := frzs_sound (acells x) H v.cells.toList hs (by simpa using hsz) (fun i u y e1 e2 => (hcl i u y (by simpa using e1) e2).2)
    obtain ⟨k1, k2, k3, k4, k5⟩ := frzParts_sound asl (frzs H (acells x)).2 ps h1 (by simpa using hl) (fun i p q e1 e2 => by
      obtain ⟨a1, a2⟩ := hx (i + 1) p q (by simpa using e1) (by simpa using e2)
      exact ⟨a1, h2.rv a2⟩) (fun q hq => hok q (List.mem_cons_of_mem _ hq))
    refine ⟨k1, h2.trans (by omega) k2, by simp only [frzParts]; omega, by simp only [frzParts, List.length_cons]; omega, fun i p q e1 e2 => ?_⟩
    cases i with
    | zero =>
      simp only [frzParts, List.getElem?_cons_zero, Option.some.injEq] at e1 e2
      subst e1; subst e2
      refine ⟨hi, by simp only [h4]; exact hsz, fun j u y g1 g2 => ?_⟩
      exact (h5 j u y (by simpa using g1) g2).mono (fun k i v g1 g2 => k2.still k i v g1 g2) (Nat.le_refl _) (fun _ _ _ h => h)
    | succ i =>
      simp only [frzParts, List.getElem?_cons_succ] at e1 e2
      exact k5 i p q e1 e2

theorem fillS_sound {w : World} {M : Mut} {sz : Nat} (h0 : 0 < sz) : ∀ (ps : List (Nat × Value)) (asl : List (Nat × List AV)) (cv : Array Value) (es es' : List (List AV)),
    ps.length = asl.length → (∀ (i : Nat) p q, ps[i]? = some p → asl[i]? = some q → p.1 = q.1 ∧ p.2.cells.size = q.2.length ∧ ∀ (j : Nat) u y, p.2.cells[j]? = some u → q.2[j]? = some y → RV w M 0 G0 u y) →
    cv.size = es.length * sz → (∀ (i : Nat) el, es[i]? = some el → el.length = sz) →
    (∀ (i : Nat) el (j : Nat) x u, es[i]? = some el → el[j]? = some x → cv[i * sz + j]? = some u → RV w M 0 G0 u x) → afillS sz es asl = some es' →
    ∃ cv', Instr.fill (fun i => some (i * sz, sz)) cv ps = some cv' ∧ cv'.size = es'.length * sz ∧ es'.length = es.length ∧ (∀ (i : Nat) el, es'[i]? = some el → el.length = sz) ∧
      (∀ (i : Nat) el (j : Nat) x u, es'[i]? = some el → el[j]? = some x → cv'[i * sz + j]? = some u → RV w M 0 G0 u x)
  | [], [], cv, es, es', _, _, hs, hl, hr, h => by
    simp only [afillS, Option.some.injEq] at h
    subst h
    exact ⟨cv, rfl, hs, rfl, hl, hr⟩
  | [], _ :: _, _, _, _, h, _, _, _, _, _ => by simp at h
  | _ :: _, [], _, _, _, h, _, _, _, _, _ => by simp at h
  | (i, v) :: ps, (i', c) :: asl, cv, es, es', hlen, hp, hs, hl, hr, h => by
    obtain ⟨hi, hv, hc⟩ := hp 0 _ _ rfl rfl
    simp only at hi hv hc
    subst hi
    simp only [afillS] at h
    split at h
    · rename_i hcond
      obtain ⟨hc1, hc2⟩ := hcond
      have hfit : i * sz + v.cells.size ≤ cv.size := by
        rw [hs]
        have : (i + 1) * sz ≤ es.length * sz := Nat.mul_le_mul_right _ (by omega)
        rw [Nat.add_mul] at this
        omega
      have hfp := foldl_put' v.cells (i * sz) cv hfit
      obtain ⟨cv', g1, g2, g3, g4, g5⟩ := fillS_sound h0 ps asl (v.cells.zipIdx.foldl (fun cs x => cs.setIfInBounds (i * sz + x.2) x.1) cv) (es.set i c) es' (by simpa using hlen)
        (fun j p q e1 e2 => hp (j + 1) p q (by simpa using e1) (by simpa using e2)) (by rw [hfp.1, hs]; simp) (fun q el hq => by
          by_cases hqi : q = i
          · subst hqi; rw [List.getElem?_set_self hc2] at hq; cases hq; exact hc1
          · rw [List.getElem?_set_ne (fun e => hqi e.symm)] at hq; exact hl q el hq) (fun q el j y u e1 e2 e3 => by
          rw [hfp.2] at e3
          by_cases hqi : q = i
          · subst hqi
            rw [List.getElem?_set_self hc2] at e1
            cases e1
            have hj : j < c.length := (List.getElem?_eq_some_iff.1 e2).1
            rw [if_pos (by omega), show q * sz + j - q * sz = j by omega] at e3
            exact hc j u y e3 e2
          · rw [List.getElem?_set_ne (fun e => hqi e.symm)] at e1
            have hj : j < sz := by rw [← hl q el e1]; exact (List.getElem?_eq_some_iff.1 e2).1
            have hout : ¬ (i * sz ≤ q * sz + j ∧ q * sz + j < i * sz + v.cells.size) := by
              intro hh
              rcases Nat.lt_or_gt_of_ne hqi with hlt | hgt
              · have : (q + 1) * sz ≤ i * sz := Nat.mul_le_mul_right _ (by omega)
                rw [Nat.add_mul] at this
                omega
              · have : (i + 1) * sz ≤ q * sz := Nat.mul_le_mul_right _ (by omega)
                rw [Nat.add_mul] at this
                omega
            rw [if_neg hout] at e3
            exact hr q el j y u e1 e2 e3) h
      refine ⟨cv', ?_, g2, by rw [g3]; simp, g4, g5⟩
      have hne : ¬ (v.cells.size ≠ sz || i * sz + v.cells.size > cv.size) = true := by simp; omega
      simp only [Instr.fill, hne]
      exact g1
    · cases h

theorem opS_buildSlice0 {t e : TypeId} {i : TypeInfo} {parts : Array (Nat × Operand)} (ho : o.op = .buildSlice t 0 parts) (ht : P.underlying t = some (.slice e)) (hi : P.info? e = some i) (hp : parts.size = 0) (h : K .zslice H) : OpS P o a H K E := by
  intro Mx G w act hs htv next Q hK _
  have hparts : parts = #[] := Array.eq_empty_of_size_eq_zero hp
  subst hparts
  have hbel : RowKit.Below w.heap.size w (w.alloc (.cells #[] e)) := (RowKit.Below.refl _ _).alloc (Nat.le_refl _) _
  obtain ⟨hs', hst⟩ := hs.below hbel
  refine wp_value (v := .slice (some ⟨w.heap.size, 0, none⟩) 0 0) (w' := w.alloc (.cells #[] e)) ?_ (hK _ _ G _ _ hst hs' (.zslice ..) h)
  simp [execOp, ho, Instr.buildSlice, run_underlying ht, sizeOf, typeInfo, hi, Instr.fill, newRow, Array.range_zero']

theorem opS_buildSlice {t e : TypeId} {i : TypeInfo} {z : AV} {len : Nat} {parts : Array (Nat × Operand)} {es : List (List AV)} (ho : o.op = .buildSlice t len parts) (ht : P.underlying t = some (.slice e)) (hi : P.info? e = some i)
    (hz : zeroA P e = some z) (hl0 : len ≠ 0) (h0 : 0 < i.size) (h24 : len * i.size ≤ 2 ^ 24) (hzs : zsz P e = true) (hok : (acells z).all okCell = true)
    (hparts : ∀ p ∈ parts.toList, (acells (aeval a p.2)).all okCell = true)
    (hf : afillS i.size (List.replicate len ((acells z).map tcell)) (frzParts H (parts.toList.map fun p => (p.1, aeval a p.2))).1 = some es) (hes : (es.all fun el => el.all okCell) = true)
    (h : K (.row (frzParts H (parts.toList.map fun p => (p.1, aeval a p.2))).2.length) ((frzParts H (parts.toList.map fun p => (p.1, aeval a p.2))).2 ++ [.row true e i.size es])) : OpS P o a H K E := by
  intro Mx G w act hs htv next Q hK _
  obtain ⟨i', zv, hi', hzv, rfl⟩ := zeroA_inv hz
  rw [hi] at hi'; cases hi'
  obtain ⟨zv', hzv', hsz⟩ := zsz_inv hi hzs
  rw [hzv] at hzv'; cases hzv'
  obtain ⟨hs1, hst1, hlen1, hl1, hr1⟩ := frzParts_sound (parts.toList.map fun p => (p.1, aeval a p.2)) H (parts.toList.map fun p => (p.1, act.eval p.2)) hs (by simp)
    (fun i p q e1 e2 => by
      simp only [List.getElem?_map, Option.map_eq_some_iff] at e1 e2
      obtain ⟨y, hy, rfl⟩ := e1
      obtain ⟨y', hy', rfl⟩ := e2
      rw [hy] at hy'
      cases hy'
      exact ⟨rfl, ev htv _⟩)
    (fun q hq => by
      obtain ⟨p, hp, rfl⟩ := List.mem_map.1 hq
      exact hparts p hp)
  generalize hps : (frzParts H (parts.toList.map fun p => (p.1, aeval a p.2))).1 = ps at *
  generalize hH1 : (frzParts H (parts.toList.map fun p => (p.1, aeval a p.2))).2 = H1 at *
  have hzc := zero_cells (w := w) (M := MM Mx G H1) hok
  obtain ⟨cv', g1, g2, g3, g4, g5⟩ := fillS_sound (w := w) (M := MM Mx G H1) h0 (parts.toList.map fun p => (p.1, act.eval p.2)) ps (madeCells zv.cells (len * i.size)) _ es (by rw [hl1]; simp) hr1
    (by rw [size_madeCells]; simp) (fun j el hj => by rw [(List.mem_replicate.1 (List.mem_of_getElem? hj)).2, hzc.1, hsz]) (fun q el j y u e1 e2 e3 => (zeros_rv hsz (by rw [hzc.1, hsz]) hzc.2 q el j y u e1 e2 e3).2) hf
  have hel : es.length = len := by rw [g3]; simp
  have hbel : RowKit.Below w.heap.size w (w.alloc (.cells cv' e)) := (RowKit.Below.refl _ _).alloc (Nat.le_refl _) _
  obtain ⟨G', k1, k2, k3⟩ := row_push (g := w.heap.size) (cap := len) (cur := cv') hs1 hbel (wr := true) (e := e) (es := es) h0 g4 (Nat.le_refl _) (heap_alloc_new w _) (by omega) (by simp only [maxLen]; have : len * 1 ≤ len * i.size := Nat.mul_le_mul_left _ h0; omega) (by rw [g2, hel])
    (fun q el j y u e1 e2 e3 => by
      have hr := g5 q el j y u e1 e2 e3
      refine ⟨hr.one ?_, hr⟩
      have h1 := List.all_eq_true.1 hes el (List.mem_of_getElem? e1)
      exact List.all_eq_true.1 h1 y (List.mem_of_getElem? e2))
  rw [hel] at k3
  refine wp_value (v := .slice (some ⟨w.heap.size, 0, none⟩) len len) (w' := w.alloc (.cells cv' e)) ?_ (hK _ _ G' _ _ (hst1.trans (by omega) k2) k1 (by simpa using k3) h)
  have hmz : ¬ (len * i.size = 0) := by
    intro h
    rcases Nat.mul_eq_zero.1 h with h | h <;> omega
  have hn24 : ¬ (len * i.size > 2 ^ 24) := by omega
  have hfill : Instr.fill (fun j => some (j * i.size, i.size)) ((Array.range (len * i.size)).map (zv.cells[· % zv.cells.size]!)) (parts.toList.map fun p => (p.1, act.eval p.2)) = some cv' := g1
  have hsize : (sizeOf e).run P w = .ok i.size w := by simp [sizeOf, typeInfo, hi]
  simp only [execOp, ho, Instr.buildSlice, Sem.run_bind, run_underlying ht, Result.andThen_ok, hsize, hn24, if_false, hmz, run_zeroValue hi hzv, Sem.run_pure, Array.toList_map]
  rw [hfill]
  simp [newRow]

end Go.Abs

/-
An abstract machine over values as trees: slices of array variables, and cells copied in them.
-/
namespace Go.Abs
open Go
variable {P : Program} {o : Oper} {a : List AV} {H : Heap} {K E : AV → Heap → Prop}

theorem RV.vsl_inv {w : World} {M : Mut} {n : Nat} {G : Gh} {v : Value} {b o m : Nat} (h : RV w M n G v (.vsl b o m)) {k : Nat} (hG : G b = some (.blk k)) : ∃ A cap, v = .slice (some A) m cap ∧ (0 < m → A = ⟨k, o, none⟩) := by
  cases h with | vsl _ _ _ _ _ _ _ _ h => obtain ⟨k', A, cap, he, hv, hA⟩ := h _ hG; cases he; exact ⟨A, cap, hv, hA⟩

theorem over0_nil : ∀ cs : List AV, over0 cs [] = cs
  | [] => rfl
  | _ :: _ => rfl
theorem overAt_nil : ∀ (cs : List AV) (o : Nat), overAt cs o [] = cs
  | [], 0 => rfl
  | [], _ + 1 => rfl
  | c :: cs, 0 => rfl
  | c :: cs, o + 1 => by simp only [overAt, overAt_nil cs o]

/-- Cells are written into a variable. -/
theorem var_write {Mx : Mut} {G : Gh} {w : World} (hs : Sim Mx G H w) {b off k : Nat} {cs : List AV} {cv : Array Value} {ty : TypeId} (hH : H[b]? = some (.var cs)) (hG : G b = some (.blk k)) (hk : w.heap[k]? = some (.cells cv ty (0, 0)))
    (hl : cv.size = cs.length) (hcv : ∀ (i : Nat) u y, cv[i]? = some u → cs[i]? = some y → u.oneCell' = true ∧ RV w (MM Mx G H) H.length G u y) {vs : List Value} {xs : List AV} (hvs : vs.length = xs.length)
    (hx : ∀ (i : Nat) u y, vs[i]? = some u → xs[i]? = some y → u.oneCell' = true ∧ RV w (MM Mx G H) H.length G u y) (h3 : off + xs.length ≤ cs.length) :
    ∃ w', (storeCells ⟨k, off, none⟩ vs).run P w = .ok () w' ∧ Sim Mx G (H.set b (.var (overAt cs off xs))) w' ∧ Step H.length Mx G H w G (H.set b (.var (overAt cs off xs))) w' := by
  have hall : ∀ u ∈ vs, u.oneCell' = true := fun u hu => by
    obtain ⟨i, hi, rfl⟩ := List.mem_iff_getElem.1 hu
    exact (hx i _ _ (List.getElem?_eq_getElem hi) (List.getElem?_eq_getElem (by omega))).1
  have hrun := run_storeCells_at P k off ty vs 0 cv w hk (by omega) hall
  simp only [Nat.add_zero] at hrun
  let cv' : Array Value := (cv.toList.take off ++ vs ++ cv.toList.drop (off + vs.length)).toArray
  have hget : ∀ i, cv'[i]? = if off ≤ i ∧ i < off + xs.length then vs[i - off]? else cv[i]? := by
    intro i
    simp only [cv', List.getElem?_toArray, List.append_assoc]
    by_cases hi : i < off
    · rw [List.getElem?_append_left (by simp; omega), List.getElem?_take_of_lt hi, if_neg (by omega)]
      try simp
    · rw [List.getElem?_append_right (by simp; omega)]
      simp only [List.length_take, Array.length_toList]
      rw [Nat.min_eq_left (by omega)]
      by_cases hi2 : i < off + xs.length
      · rw [List.getElem?_append_left (by omega), if_pos (by omega)]
      · rw [List.getElem?_append_right (by omega), if_neg (by omega)]
        simp only [List.getElem?_drop, Array.getElem?_toList]
        congr 1
        omega
  have hsz' : cv'.size = cs.length := by
    simp only [cv', List.size_toArray, List.length_append, List.length_take, List.length_drop, Array.length_toList]
    omega
  have hobj : (∀ k1 i u, w.cell? ⟨k1, i, none⟩ = some u → ¬ MM Mx G H k1 i → (w.setRow k cv').cell? ⟨k1, i, none⟩ = some u ∧ ¬ MM Mx G (H.set b (.var (overAt cs off xs))) k1 i) →
      ObjR (w.setRow k cv') (MM Mx G (H.set b (.var (overAt cs off xs)))) H.length G (some (.blk k)) (.var (overAt cs off xs)) := by
    intro hcell
    refine ⟨k, cv', ty, rfl, setRow_heap w k cv cv' ty _ hk, by rw [hsz', overAt_length], fun i u y g1 g2 => ?_⟩
    rw [hget] at g1
    rw [overAt_get _ _ _ _ (by omega)] at g2
    by_cases hi : off ≤ i ∧ i < off + xs.length
    · rw [if_pos hi] at g1 g2
      obtain ⟨a1, a2⟩ := hx _ _ _ g1 g2
      exact ⟨a1, a2.mono hcell (Nat.le_refl _) (fun _ _ _ h => h)⟩
    · rw [if_neg hi] at g1 g2
      obtain ⟨a1, a2⟩ := hcv _ _ _ g1 g2
      exact ⟨a1, a2.mono hcell (Nat.le_refl _) (fun _ _ _ h => h)⟩
  have hput := hs.put (w' := w.setRow k cv') (o' := .var (overAt cs off xs)) hG hH rfl rfl rfl rfl (by simp) (fun k1 hk1 => setRow_other w k k1 _ hk1) (fun _ _ => trivial) (fun i u _ hm => absurd trivial hm) hobj
  exact ⟨_, hrun, hput.1, hput.2⟩

theorem opS_sliceVar {t e : TypeId} {n : Nat} {i : TypeInfo} {x : Operand} {lo hi : Option Operand} {l h : Option Int} {b off : Nat} {cs : List AV} (ho : o.op = .slice t x lo hi none) (ht : P.underlying t = some (.array n e)) (hi' : P.info? e = some i) (h1 : i.size = 1)
    (hx : aeval a x = .ptr b off) (hH : H[b]? = some (.var cs)) (hl : bound (lo.map (aeval a)) = some l) (hh : bound (hi.map (aeval a)) = some h) (hok : boundsOk n l h)
    (hk : K (.vsl b (off + (l.map Int.toNat).getD 0) ((h.map Int.toNat).getD n - (l.map Int.toNat).getD 0)) H) : OpS P o a H K E :=
  opS_same hk fun Mx G w act hs htv => by
    obtain ⟨k, cv, ty, hG, hk', _, _⟩ := hs.obj b _ hH
    have e1 := ev htv x
    rw [hx] at e1
    have hev := e1.ptr_inv hG
    obtain ⟨hr, h2, h3⟩ := run_bounds (P := P) (w := w) htv hl hh hok (Nat.le_refl n) false
    refine ⟨.slice (some (if n = (l.map Int.toNat).getD 0 then ⟨k, off, none⟩ else (⟨k, off, none⟩ : Addr).add ((l.map Int.toNat).getD 0 * 1))) ((h.map Int.toNat).getD n - (l.map Int.toNat).getD 0) (n - (l.map Int.toNat).getD 0), ?_, ?_⟩
    · simp only [execOp, ho, hev, Sem.run_bind, Option.map_none]
      simp [Instr.sliceAt, run_underlying ht, Instr.sureAddr, hr, sizeOf, typeInfo, hi', h1]
    · refine .vsl _ _ _ _ _ _ (List.getElem?_eq_some_iff.1 hH).1 rfl (fun l' hl' => ?_)
      rw [hG] at hl'
      cases hl'
      refine ⟨k, _, _, rfl, rfl, fun hm => ?_⟩
      rw [if_neg (by omega), Nat.mul_one, Addr.add_lit]

theorem opS_copy {t e : TypeId} {i : TypeInfo} {x y : Operand} {ats : Array TypeId} {b1 o1 n1 b2 o2 n2 : Nat} {cs ds : List AV} (ho : o.op = .call { callee := .builtin .copy, args := #[x, y], argTypes := ats }) (hat : ats[0]? = some t)
    (ht : P.underlying t = some (.slice e)) (hi : P.info? e = some i) (h1 : i.size = 1) (hx : aeval a x = .vsl b1 o1 n1) (hy : aeval a y = .vsl b2 o2 n2) (hH1 : H[b1]? = some (.var cs)) (hH2 : H[b2]? = some (.var ds))
    (hc : o1 + n1 ≤ cs.length) (hd : o2 + n2 ≤ ds.length) (h : K (.int .i64 (min n2 n1 : Nat)) (H.set b1 (.var (overAt cs o1 ((ds.drop o2).take (min n2 n1)))))) : OpS P o a H K E := by
  intro Mx G w act hs htv next Q hK _
  obtain ⟨k1, cv, ty, hG1, hk1, hl1, hcv⟩ := hs.obj b1 _ hH1
  obtain ⟨k2, dv, ty2, hG2, hk2, hl2, hdv⟩ := hs.obj b2 _ hH2
  have e1 := ev htv x
  have e2 := ev htv y
  rw [hx] at e1
  rw [hy] at e2
  obtain ⟨A1, c1, v1, w1⟩ := e1.vsl_inv hG1
  obtain ⟨A2, c2, v2, w2⟩ := e2.vsl_inv hG2
  have hexec : execOp act.eval o = (do pure (.value (← Builtin.copy_ ats o.type #[act.eval x, act.eval y]))) := by
    simp [execOp, ho, resolve, invoke, builtin]
  rcases Nat.eq_zero_or_pos (min n2 n1) with hm | hm
  · have hr : (Builtin.copy_ ats o.type #[act.eval x, act.eval y]).run P w = .ok (.int .i64 (min n2 n1 : Nat)) w := by
      rw [v1, v2]
      have hm' : Nat.min n2 n1 = 0 := hm
      simp [Builtin.copy_, hat, run_underlying ht, Builtin.lenOf, Builtin.firstCells, sizeOf, typeInfo, hi, hm', loadCells, loadCellsFrom, storeCells, goInt]
    rw [hm] at h
    simp only [List.take_zero, overAt_nil] at h
    have hself : H.set b1 (.var cs) = H := by
      obtain ⟨hlt, he⟩ := List.getElem?_eq_some_iff.1 hH1
      rw [← he, List.set_getElem_self]
    rw [hself] at h
    refine wp_value (v := .int .i64 (min n2 n1 : Nat)) (w' := w) ?_ (hK _ _ G _ _ Step.refl hs (by rw [hm]; exact .int ..) h)
    rw [hexec]
    simp only [Sem.run_bind, hr]
    rfl
  · obtain rfl := w1 (by omega)
    obtain rfl := w2 (by omega)
    let vs : List Value := (List.range (min n2 n1)).map fun j => dv[o2 + j]?.getD undef
    have hvl : vs.length = ((ds.drop o2).take (min n2 n1)).length := by simp [vs]; omega
    have hvx : ∀ (q : Nat) u z, vs[q]? = some u → ((ds.drop o2).take (min n2 n1))[q]? = some z → u.oneCell' = true ∧ RV w (MM Mx G H) H.length G u z := by
      intro q u z g1 g2
      have hq : q < min n2 n1 := by have := (List.getElem?_eq_some_iff.1 g1).1; simpa [vs] using this
      have hq2 : o2 + q < dv.size := by omega
      simp only [vs, List.getElem?_map, List.getElem?_range hq, Option.map_some, Option.some.injEq, Array.getElem?_eq_getElem hq2, Option.getD_some] at g1
      subst g1
      rw [List.getElem?_take_of_lt hq, List.getElem?_drop] at g2
      exact hdv (o2 + q) _ z (Array.getElem?_eq_getElem hq2) g2
    obtain ⟨w', hst, hsim, hstep⟩ := var_write (P := P) (off := o1) hs hH1 hG1 hk1 hl1 hcv hvl hvx (by rw [← hvl]; simp only [vs, List.length_map, List.length_range]; omega)
    have hload := run_loadCells (P := P) w ⟨k2, o2, none⟩ (min n2 n1) (fun j => dv[o2 + j]?.getD undef) (fun j hj => by
      rw [Addr.add_lit, cell_of hk2, Array.getElem?_eq_getElem (show o2 + j < dv.size by omega)]
      rfl)
    have hr : (Builtin.copy_ ats o.type #[act.eval x, act.eval y]).run P w = .ok (.int .i64 (min n2 n1 : Nat)) w' := by
      rw [v1, v2]
      have hmm : Nat.min n2 n1 = min n2 n1 := rfl
      have hst' : (storeCells ⟨k1, o1, none⟩ ((List.range (min n2 n1)).map fun j => dv[o2 + j]?.getD undef)).run P w = .ok () w' := hst
      simp [Builtin.copy_, hat, run_underlying ht, Builtin.lenOf, Builtin.firstCells, hi, h1, hload, hmm, goInt, sizeOf, typeInfo]
      rw [hst']
      rfl
    refine wp_value (v := .int .i64 (min n2 n1 : Nat)) (w' := w') ?_ (hK _ _ G _ _ hstep hsim (.int ..) h)
    rw [hexec]
    simp only [Sem.run_bind, hr]
    rfl
end Go.Abs

/-
An abstract machine over values as trees: a row of bytes turned to its own type (a literal's conversion) is frozen.
-/
namespace Go.Abs
open Go
variable {P : Program} {o : Oper} {a : List AV} {H : Heap} {K E : AV → Heap → Prop}

/-- An object is let go; its block changes where no cell is. -/
theorem Sim.killW {Mx : Mut} {G : Gh} {H : Heap} {w w' : World} (hs : Sim Mx G H w) {b kb : Nat} {l : Loc} {o : HO} (hH : H[b]? = some o) (hG : G b = some l) (hkb : l.block = some kb)
    (hos : w'.os = w.os) (htp : w'.tape = w.tape) (hout : w'.output = w.output) (hsz : w'.heap.size = w.heap.size)
    (hfar : ∀ k, k ≠ kb → w'.heap[k]? = w.heap[k]?) (hown : ∀ i v, w.cell? ⟨kb, i, none⟩ = some v → w'.cell? ⟨kb, i, none⟩ = some v) :
    Sim Mx (gput G b none) (H.set b .dead) w' ∧ Step H.length Mx G H w (gput G b none) (H.set b .dead) w' := by
  have hlt : b < H.length := (List.getElem?_eq_some_iff.1 hH).1
  have hnew : ∀ b1 l1, gput G b none b1 = some l1 → G b1 = some l1 ∧ b1 ≠ b := fun b1 l1 h => by
    by_cases hb : b1 = b
    · subst hb; rw [gput_same] at h; cases h
    · exact ⟨by rwa [gput_other _ _ hb] at h, hb⟩
  have hmm : ∀ k i, ¬ MM Mx G H k i → ¬ MM Mx (gput G b none) (H.set b .dead) k i := by
    rintro k i hm (hx | ⟨b1, l1, o1, hg, hH1, hbk, hmu⟩)
    · exact hm (.inl hx)
    · obtain ⟨hg', hb⟩ := hnew b1 l1 hg
      rw [List.getElem?_set_ne (fun e => hb e.symm)] at hH1
      exact hm (.inr ⟨b1, l1, o1, hg', hH1, hbk, hmu⟩)
  have hcell : ∀ k i v, w.cell? ⟨k, i, none⟩ = some v → ¬ MM Mx G H k i → w'.cell? ⟨k, i, none⟩ = some v ∧ ¬ MM Mx (gput G b none) (H.set b .dead) k i := fun k i v h1 h2 => by
    refine ⟨?_, hmm k i h2⟩
    by_cases hk : k = kb
    · subst hk; exact hown i v h1
    · rw [World.cell?_of_block (a := ⟨k, i, none⟩) (hfar k hk)]
      exact h1
  refine ⟨⟨fun b1 l1 h => by simpa using hs.dom b1 l1 (hnew b1 l1 h).1, ?_, fun b1 b2 l1 l2 k h1 h2 => hs.inj b1 b2 l1 l2 k (hnew _ _ h1).1 (hnew _ _ h2).1, fun b1 l1 k i h => hs.ext b1 l1 k i (hnew _ _ h).1, fun k i h => by rw [hsz]; exact hs.lt k i h⟩,
    ⟨hos, htp, hout, by omega, ⟨Nat.le_refl _, by simp⟩, fun k hk hn => hfar k (fun e => hn b l hG (e ▸ hkb)), hcell, fun b1 l1 _ h => (hnew b1 l1 h).1, fun b1 l1 k h hk => .inl ⟨b1, l1, (hnew _ _ h).1, hk⟩⟩⟩
  intro b1 o1 h
  by_cases hb : b1 = b
  · subst hb
    rw [List.getElem?_set_self hlt] at h
    cases h
    rw [gput_same]
    rfl
  · rw [List.getElem?_set_ne (fun e => hb e.symm)] at h
    rw [gput_other _ _ hb]
    exact (hs.obj b1 o1 h).mono hcell (by simp) (fun b2 l2 _ h => (hnew b2 l2 h).1) (fun l0 k hl0 hk => hfar k (fun e => by subst e; exact hb (hs.inj b1 b l0 l k hl0 hG hk hkb)))

theorem freeze_facts (w : World) (k n : Nat) {cur : Array Value} {e : TypeId} {fr : Nat × Nat} (hk : w.heap[k]? = some (.cells cur e fr)) :
    let w' := w.freeze ⟨k, n, none⟩ 1
    w'.os = w.os ∧ w'.tape = w.tape ∧ w'.output = w.output ∧ w'.heap.size = w.heap.size ∧ (∀ k', k' ≠ k → w'.heap[k']? = w.heap[k']?) ∧ (∀ i v, w.cell? ⟨k, i, none⟩ = some v → w'.cell? ⟨k, i, none⟩ = some v) := by
  refine ⟨rfl, rfl, rfl, by simp [World.freeze], fun k' hne => by simp [World.freeze, Array.getElem?_modify, Ne.symm hne], fun i v h => ?_⟩
  rw [← h]
  simp only [World.cell?, World.freeze, if_neg (show ¬ (1 : Nat) = 0 by decide), Array.getElem?_modify, if_true, hk, Option.map_some]

theorem opS_convSame {t e : TypeId} {x : Operand} {b : Nat} {wr : Bool} {e' sz : Nat} {el : List AV} {r : List (List AV)} (ho : o.op = .convert t t x) (h1 : P.underlying t = some (.slice e)) (h3 : P.underlying e = some (.int .u8))
    (hx : aeval a x = .row b) (hH : H[b]? = some (.row wr e' sz (el :: r))) (h : K (.slice (el :: r)) (H.set b .dead)) : OpS P o a H K E := by
  intro Mx G w act hs htv next Q hK _
  have e1 := ev htv x
  rw [hx] at e1
  obtain ⟨s1, s2, s3, s4⟩ := frz_sound hs e1
  have hfrz : frz H (.row b) = (.slice (el :: r), H.set b (.row false e' sz (el :: r))) := by simp only [frz, hH]
  rw [hfrz] at s1 s2 s3 s4
  have hlt : b < H.length := (List.getElem?_eq_some_iff.1 hH).1
  have hH' : (H.set b (.row false e' sz (el :: r)))[b]? = some (.row false e' sz (el :: r)) := by rw [List.getElem?_set_self hlt]
  obtain ⟨_, _, ⟨hn, _⟩ | ⟨g, cap, cur, hG, hk, _⟩⟩ := s1.obj b _ hH'
  · cases hn
  have hv := e1.row_inv hG
  obtain ⟨f1, f2, f3, f4, f5, f6⟩ := freeze_facts w g cur.size hk
  obtain ⟨m1, m2⟩ := s1.killW (w' := w.freeze ⟨g, cur.size, none⟩ 1) hH' hG rfl f1 f2 f3 f4 f5 f6
  have hset : (H.set b (.row false e' sz (el :: r))).set b .dead = H.set b .dead := by simp
  rw [hset] at m1 m2
  have hsh : w.shape? g = some (e', cur.size) := by simp only [World.shape?, hk]
  refine wp_value (v := act.eval x) (w' := w.freeze ⟨g, cur.size, none⟩ 1) ?_ (hK _ _ (gput G b none) _ _ (s2.trans (by simp) m2) m1 ?_ h)
  · rw [hv]
    simp [execOp, ho, hv, convert, run_underlying h1, run_underlying h3, markStringish, hsh]
  · exact (s4.mono m2.still (Nat.le_refl _) (fun _ _ _ h => h)).lift
end Go.Abs

/-
An abstract machine over values as trees: every operation is sound.
-/
namespace Go.Abs
open Go
variable {P : Program} {o : Oper} {a : List AV} {H : Heap} {K E : AV → Heap → Prop}

theorem cond_false {b : Bool} {p : Prop} (h : cond b p False) : b = true ∧ p := by cases b <;> simp_all

theorem tyOf_cases {t : TypeId} {r : Bool × Nat} (h : tyOf P t = some r) : (∃ n, tyOf P t = some (true, n)) ∨ ∃ n, tyOf P t = some (false, n) := by
  rcases r with ⟨b, n⟩
  cases b
  · exact .inr ⟨n, h⟩
  · exact .inl ⟨n, h⟩

theorem two_args {args : Array Operand} {u v : AV} (h : args.toList.map (aeval a) = [u, v]) : ∃ x0 y0, args = #[x0, y0] ∧ aeval a x0 = u ∧ aeval a y0 = v := by
  rcases args with ⟨l⟩
  match l, h with
  | [x0, y0], h => simp at h; exact ⟨x0, y0, rfl, h.1, h.2⟩
  | [_], h => simp at h
  | _ :: _ :: _ :: _, h => simp at h

theorem aop_sound {T : Tab} (hT : TOK P T) (h : aop P T o a H K E) : OpS P o a H K E := by
  unfold aop at h
  cases hop : o.op with
  | move x => rw [hop] at h; exact opS_move hop h
  | assign x => rw [hop] at h; exact opS_assign hop h
  | pick c x y =>
    rw [hop] at h
    simp only at h
    split at h
    · rename_i b hc
      split at h
      · rename_i x' y' hx hy
        refine opS_pick hop hc _ h (fun w M n G u v hu hv => ?_)
        rw [hx] at hu
        rw [hy] at hv
        rw [hu.bool_inv, hv.bool_inv]
        cases b
        · exact .bool ..
        · exact .bool ..
      · cases b
        · exact opS_pick hop hc _ h (fun w M n G u v hu hv => by simpa using hv)
        · exact opS_pick hop hc _ h (fun w M n G u v hu hv => by simpa using hu)
    · exact h.elim
  | alloc t =>
    rw [hop] at h
    simp only at h
    split at h
    · rename_i z hz
      obtain ⟨h1, h2⟩ := cond_false h
      exact opS_alloc hop hz h1 h2
    · exact h.elim
  | box e x =>
    rw [hop] at h
    obtain ⟨h1, h2⟩ := cond_false h
    exact opS_box hop h1 h2
  | build t parts =>
    rw [hop] at h
    simp only at h
    split at h
    · rename_i fs z ht hz
      split at h
      · rename_i pl hp
        split at h
        · rename_i cs hf
          obtain ⟨h1, h2⟩ := cond_false h
          rw [Bool.and_eq_true] at h1
          exact opS_build hop ht hz hp hf (fun p hp => List.all_eq_true.1 h1.1 p hp) h1.2 h2
        · exact h.elim
      · exact h.elim
    · rename_i len e z ht hz
      split at h
      · rename_i ei he
        obtain ⟨h1, h2⟩ := cond_false h
        rw [Bool.and_eq_true] at h1
        rw [forceS_eq] at h2
        obtain ⟨cs, hf, h3⟩ := afillK_inv _ _ _ _ h2
        exact opS_buildA hop ht hz he hf (fun p hp => List.all_eq_true.1 h1.1 p hp) h1.2 h3
      · exact h.elim
    · exact h.elim
  | buildSlice t len parts =>
    rw [hop] at h
    simp only at h
    split at h
    · rename_i e ht
      split at h
      · rename_i i z hi hz
        split at h
        · rename_i hl0
          subst hl0
          split at h
          · rename_i hp
            exact opS_buildSlice0 hop ht hi hp h
          · exact h.elim
        · rename_i hl0
          split at h
          · rename_i hc
            obtain ⟨c1, c2, c3, c4, c5⟩ := hc
            split at h
            · rename_i es hf
              obtain ⟨h1, h2⟩ := cond_false h
              exact opS_buildSlice hop ht hi hz hl0 c1 c2 c3 c4 (fun p hp => List.all_eq_true.1 c5 p hp) hf h1 h2
            · exact h.elim
          · exact h.elim
      · exact h.elim
    · exact h.elim
  | load t x =>
    rw [hop] at h
    simp only at h
    split at h
    · rename_i b i c hx
      split at h
      · rename_i wr e sz es n hH ht
        obtain ⟨el, h1, h2, h3⟩ := h
        exact (opS_loadR hop hx hH h1).1 n ht h2 h3
      · rename_i wr e sz es n hH ht
        obtain ⟨el, y, r, h1, h2, h3⟩ := h
        exact (opS_loadR hop hx hH h1).2 n y r ht h2 h3
      · exact h.elim
    · split at h
      · rename_i n ht
        split at h
        · rename_i cs hc
          split at h
          · rename_i hn
            exact (opS_load hop hc).1 n ht hn h
          · exact h.elim
        · exact h.elim
      · rename_i n ht
        split at h
        · rename_i b o' hx
          split at h
          · rename_i cs hH
            obtain ⟨c, h1, h2⟩ := nth_inv h
            have hlt := (List.getElem?_eq_some_iff.1 h1).1
            have hc : cellsAt H (aeval a x) = some (c :: cs.drop (o' + 1)) := by
              rw [hx]
              simp only [cellsAt, hH]
              rw [List.drop_eq_getElem_cons hlt, (List.getElem?_eq_some_iff.1 h1).2]
            exact (opS_load hop hc).2 n c _ ht rfl h2
          · exact h.elim
        · rename_i c r hx
          exact (opS_load hop (cs := c :: r) (by rw [hx]; rfl)).2 n c r ht rfl h
        · exact h.elim
      · exact h.elim
  | store t x v =>
    rw [hop] at h
    simp only at h
    split at h
    · rename_i b off ag n hx ht
      split at h
      · rename_i cs hH
        split at h
        · rename_i hc
          exact opS_store hop hx ht hH hc.1 hc.2.1 hc.2.2 h
        · exact h.elim
      · exact h.elim
    · rename_i b i c ag n hx ht
      split at h
      · rename_i e sz es hH
        split at h
        · rename_i hc
          obtain ⟨el, h1, h2, h3⟩ := h
          exact opS_storeR hop hx ht hc.1 hH hc.2.2 h1 h2 h3
        · exact h.elim
      · exact h.elim
    · exact h.elim
  | nilCheck x =>
    rw [hop] at h
    simp only at h
    split at h
    · rename_i g f c hx
      exact opS_nilCheckF hop hx h
    · obtain ⟨h1, h2⟩ := cond_false h
      exact opS_nilCheck hop h1 h2
  | binOp op t x y u =>
    rw [hop] at h
    simp only at h
    split at h
    · rename_i k p k' q hx hy
      cases hb : (decide (k = k') && decide (q ≠ 0)) with
      | false => rw [hb] at h; exact h.elim
      | true =>
        rw [hb] at h
        simp only [Bool.and_eq_true, decide_eq_true_eq] at hb
        obtain ⟨rfl, h1⟩ := hb
        exact opS_quo hop hx hy h1 (.inl ⟨rfl, rfl⟩) h
    · rename_i k p k' q hx hy
      cases hb : (decide (k = k') && decide (q ≠ 0)) with
      | false => rw [hb] at h; exact h.elim
      | true =>
        rw [hb] at h
        simp only [Bool.and_eq_true, decide_eq_true_eq] at hb
        obtain ⟨rfl, h1⟩ := hb
        exact opS_quo hop hx hy h1 (.inr ⟨rfl, rfl⟩) h
    · rename_i k p k' q hx hy
      cases hb : decide (0 ≤ q) with
      | false => rw [hb] at h; exact h.elim
      | true =>
        rw [hb] at h
        exact opS_bin (z := .int k (k.wrap (p * 2 ^ (min q.toNat k.bits)))) hop (by rw [hx, hy]; simp only [abin]; rw [if_pos (of_decide_eq_true hb)]) h
    · rename_i k p k' q hx hy
      cases hb : decide (0 ≤ q) with
      | false => rw [hb] at h; exact h.elim
      | true =>
        rw [hb] at h
        exact opS_bin (z := .int k (p.fdiv (2 ^ (min q.toNat k.bits)))) hop (by rw [hx, hy]; simp only [abin]; rw [if_pos (of_decide_eq_true hb)]) h
    · rename_i p q hx hy
      split at h
      · rename_i ht; exact opS_eqBool hop hx hy ht (.inl ⟨rfl, rfl⟩) h
      · exact h.elim
    · rename_i p q hx hy
      split at h
      · rename_i ht; exact opS_eqBool hop hx hy ht (.inr ⟨rfl, rfl⟩) h
      · exact h.elim
    · rename_i hx hy
      obtain ⟨he, rfl, rfl, h⟩ := h
      exact opS_eq2 hop hx hy he (.inl ⟨rfl, rfl⟩) h
    · rename_i hx hy
      obtain ⟨he, rfl, rfl, h⟩ := h
      exact opS_eq2 hop hx hy he (.inr ⟨rfl, rfl⟩) h
    · rename_i hx hy
      split at h
      · rename_i ht; exact opS_ifaceNil hop hx hy ht (.inl ⟨rfl, rfl⟩) h
      · exact h.elim
    · rename_i hx hy
      split at h
      · rename_i ht; exact opS_ifaceNil hop hx hy ht (.inr ⟨rfl, rfl⟩) h
      · exact h.elim
    · rename_i hx hy
      split at h
      · rename_i ht; exact opS_nilNil hop hx hy ht (.inl ⟨rfl, rfl⟩) h
      · exact h.elim
    · rename_i hx hy
      split at h
      · rename_i ht; exact opS_nilNil hop hx hy ht (.inr ⟨rfl, rfl⟩) h
      · exact h.elim
    · rename_i hx hy
      split at h
      · rename_i ht; exact opS_ptrNil hop (.inl ⟨hx, rfl⟩) hy ht (.inl ⟨rfl, rfl⟩) h
      · exact h.elim
    · rename_i hx hy
      split at h
      · rename_i ht; exact opS_ptrNil hop (.inl ⟨hx, rfl⟩) hy ht (.inr ⟨rfl, rfl⟩) h
      · exact h.elim
    · rename_i hx hy
      split at h
      · rename_i ht; exact opS_ptrNil hop (.inr ⟨_, hx, rfl⟩) hy ht (.inl ⟨rfl, rfl⟩) h
      · exact h.elim
    · rename_i hx hy
      split at h
      · rename_i ht; exact opS_ptrNil hop (.inr ⟨_, hx, rfl⟩) hy ht (.inr ⟨rfl, rfl⟩) h
      · exact h.elim
    · split at h
      · rename_i z hz
        exact opS_bin hop hz h
      · cases hy : angY y with
        | true => rw [hy] at h; exact h.elim
        | false => rw [hy] at h; exact opS_nil hop hy h
  | unOp op t x =>
    rw [hop] at h
    simp only at h
    split at h
    · rename_i b hx; exact opS_un hop h (.inl ⟨b, hx, rfl, rfl⟩)
    · rename_i k n hx; exact opS_un hop h (.inr (.inl ⟨k, n, hx, rfl, rfl⟩))
    · rename_i k n hx; exact opS_un hop h (.inr (.inr ⟨k, n, hx, rfl, rfl⟩))
    · exact h.elim
  | convert src dst x =>
    rw [hop] at h
    simp only at h
    split at h
    · rename_i d k k' n h1 h2 hx; exact opS_convInt hop h1 h2 hx h
    · rename_i e s h1 h2 hx
      split at h
      · rename_i ht; exact opS_convStr hop h1 h2 ht hx h
      · exact h.elim
    · rename_i e e' b h1 h2 hx
      cases hb : Nat.beq src dst with
      | false => rw [hb] at h; exact h.elim
      | true =>
        rw [hb] at h
        simp only [cond_true] at h
        have := Nat.eq_of_beq_eq_true hb
        subst this
        split at h
        · rename_i h3 h4; exact opS_convSame hop h1 h3 hx h4 h
        · exact h.elim
    · rename_i e h1 h2
      split at h
      · rename_i es hes
        split at h
        · rename_i g1
          obtain ⟨s, rfl, g2⟩ := h
          exact opS_convBytes hop h1 h2 g1 hes g2
        · exact h.elim
      · exact h.elim
    · exact h.elim
  | makeInterface t x =>
    rw [hop] at h
    simp only at h
    split at h
    · exact h.elim
    · rename_i d hne h1
      exact opS_iface hop h1 (fun ms e => hne ms e) h
    · exact h.elim
  | typeAssert x xt dst ok =>
    rw [hop] at h
    simp only at h
    split at h
    · exact h.elim
    · rename_i t v d hnot hx ht
      cases hb : Nat.beq t dst with
      | false => rw [hb] at h; exact h.elim
      | true =>
        rw [hb] at h
        have := Nat.eq_of_beq_eq_true hb
        subst this
        exact opS_assert hop hx ht (fun ms e => hnot ms e) h
    · exact h.elim
  | makeFunc fn f c => rw [hop] at h; exact opS_makeFunc hop h
  | makeSlice t l c =>
    rw [hop] at h
    simp only at h
    split at h
    · rename_i e kl n kc m ht hl hc
      split at h
      · rename_i i z hi hz
        obtain ⟨c1, c2, c3, rfl, c4, c5, c6, c7⟩ := h
        exact opS_makeSlice hop ht hi hz c2 c1 c3 hl hc c4 c5 c6 c7
      · exact h.elim
    · exact h.elim
  | slice t x lo hi mx =>
    rw [hop] at h
    simp only at h
    split at h
    · rename_i l h' hl hh
      split at h
      · rename_i s ht hx
        exact opS_sliceStr hop ht hx hl hh h.1 h.2
      · rename_i e ht
        split at h
        · rename_i i hi hx'
          exact opS_sliceZ hop ht hi hx' hl hh h.1 h.2
        · rename_i i es hi hx'
          exact opS_slice hop ht hi hx' h.1 hl hh h.2.1 h.2.2
        · rename_i i b hi hx'
          split at h
          · rename_i wr e' sz es hH
            obtain ⟨rfl, h1, h2⟩ := h
            exact (opS_sliceRow hop ht hi hH hl hh).1 hx' h1 h2
          · exact h.elim
        · rename_i i b off n hi hx'
          split at h
          · rename_i wr e' sz es hH
            obtain ⟨rfl, h1, h2⟩ := h
            exact (opS_sliceRow hop ht hi hH hl hh).2 off n hx' h1 h2
          · exact h.elim
        · exact h.elim
      · rename_i n e b off ht hx
        split at h
        · rename_i i cs hi hH
          obtain ⟨h1, h2, h3⟩ := cond_false h
          rw [Bool.and_eq_true] at h1
          exact opS_sliceVar hop ht hi (Nat.eq_of_beq_eq_true h1.1) hx hH hl hh h2 h3
        · exact h.elim
      · exact h.elim
    · exact h.elim
  | fieldAddr s x f =>
    rw [hop] at h
    simp only at h
    split at h
    · rename_i fs ht
      split at h
      · rename_i fd hfd
        split at h
        · rename_i i hi
          split at h
          · exact h.elim
          · rename_i hsz
            split at h
            · rename_i b off hx
              obtain ⟨h1, h2⟩ := cond_false h
              exact (opS_fieldAddr hop ht hfd hi hsz).1 b off hx h1 h2
            · rename_i b j c hx
              obtain ⟨h1, h2⟩ := cond_false h
              exact (opS_fieldAddr hop ht hfd hi hsz).2.1 b j c hx h1 h2
            · rename_i cs hx
              exact (opS_fieldAddr hop ht hfd hi hsz).2.2 cs hx h
            · exact h.elim
        · exact h.elim
      · exact h.elim
    · exact h.elim
  | field t x f =>
    rw [hop] at h
    simp only at h
    split at h
    · rename_i fs cs ht hx
      split at h
      · rename_i fd hfd
        split at h
        · rename_i n hty
          split at h
          · rename_i hn
            exact (opS_field hop ht hx hfd).1 n hty hn h
          · exact h.elim
        · rename_i n hty
          split at h
          · rename_i c r hd
            exact (opS_field hop ht hx hfd).2 n c r hty hd h
          · exact h.elim
        · exact h.elim
      · exact h.elim
    · exact h.elim
  | indexAddr t x ix =>
    rw [hop] at h
    simp only at h
    split at h
    · rename_i n e b off k i ht hx hix
      split at h
      · rename_i inf hi
        obtain ⟨h0, h1, h2⟩ := h
        obtain ⟨h3, h4⟩ := cond_false h2
        exact (opS_indexArr hop ht hi hix h0 h1).1 b off hx h3 h4
      · exact h.elim
    · rename_i n e cs k i ht hx hix
      split at h
      · rename_i inf hi
        exact (opS_indexArr hop ht hi hix h.1 h.2.1).2 cs hx h.2.2
      · exact h.elim
    · rename_i e es k i ht hx hix
      split at h
      · rename_i inf hi
        obtain ⟨h0, h1, el, h2, h3, h4⟩ := h
        exact opS_indexSlice hop ht hi hx hix h0 h1 h2 h3 h4
      · exact h.elim
    · rename_i e b k i ht hx hix
      split at h
      · rename_i inf wr e' sz es hi hH
        obtain ⟨rfl, h0, h1, h2⟩ := h
        exact (opS_indexRow hop ht hi hH hix h0).1 hx h1 h2
      · exact h.elim
    · rename_i e b off n k i ht hx hix
      split at h
      · rename_i inf wr e' sz es hi hH
        obtain ⟨rfl, h0, h1, h2⟩ := h
        exact (opS_indexRow hop ht hi hH hix h0).2 off n hx h1 h2
      · exact h.elim
    · exact h.elim
  | index t x ix =>
    rw [hop] at h
    simp only at h
    split at h
    · rename_i s k i ht hx hix
      obtain ⟨b, h0, h1, h2⟩ := h
      exact opS_indexStr hop ht hx hix h0 h1 h2
    · rename_i n e cs k i ht hx hix
      split at h
      · rename_i sz hty
        obtain ⟨h0, h1, h2⟩ := h
        split at h2
        · rename_i hn
          exact (opS_indexAgg hop ht hx hix h0 h1 hty).1 rfl hn h2
        · exact h2.elim
      · rename_i sz hty
        obtain ⟨h0, h1, h2⟩ := h
        split at h2
        · rename_i c r hd
          exact (opS_indexAgg hop ht hx hix h0 h1 hty).2 c r rfl hd h2
        · exact h2.elim
      · exact h.elim
    · exact h.elim
  | range t x =>
    rw [hop] at h
    simp only at h
    split at h
    · rename_i s ht hx; exact opS_range hop ht hx h
    · exact h.elim
  | next it isStr =>
    rw [hop] at h
    simp only at h
    split at h
    · rename_i b hx
      split at h
      · rename_i s pos hH
        cases hp : Nat.blt pos s.size with
        | true => rw [hp] at h; exact (opS_next hop hx hH).1 (by rw [Nat.blt_eq] at hp; exact hp) h
        | false => rw [hp] at h; exact (opS_next hop hx hH).2 (fun hlt => by rw [← Nat.blt_eq, hp] at hlt; cases hlt) h
      · exact h.elim
    · exact h.elim
  | extract x i =>
    rw [hop] at h
    simp only at h
    split at h
    · rename_i vs hx
      split at h
      · rename_i v hv; exact opS_extract hop hx hv h
      · exact h.elim
    · exact h.elim
  | panic x =>
    rw [hop] at h
    simp only at h
    split at h
    · rename_i t v hx; exact opS_panic hop hx h
    · exact h.elim
  | call c =>
    rw [hop] at h
    rcases c with ⟨callee, args, argTypes⟩
    cases callee with
    | builtin b =>
      simp only at h
      split at h
      · rename_i x hargs
        have hargs' : ∃ x0, args = #[x0] ∧ aeval a x0 = x := by
          rcases args with ⟨l⟩
          match l, hargs with
          | [x0], hargs => simp at hargs; exact ⟨x0, rfl, hargs⟩
        obtain ⟨x0, rfl, hx0⟩ := hargs'
        split at h
        · rename_i s ht
          simp only [Option.bind_eq_some_iff] at ht
          obtain ⟨t, hat, ht⟩ := ht
          exact opS_lenStr hop hat ht hx0 h
        · rename_i n e ht
          simp only [Option.bind_eq_some_iff] at ht
          obtain ⟨t, hat, ht⟩ := ht
          exact opS_lenArr hop hat ht h
        · rename_i e ht
          simp only [Option.bind_eq_some_iff] at ht
          obtain ⟨t, hat, ht⟩ := ht
          split at h
          · rename_i es hes
            exact opS_lenSlice hop hat ht (by rw [hx0]; exact hes) h
          · exact h.elim
        · exact h.elim
      · rename_i k x k' y hargs
        obtain ⟨x0, y0, rfl, hx0, hy0⟩ := two_args hargs
        exact opS_min hop hx0 hy0 h
      · rename_i k x k' y hargs
        obtain ⟨x0, y0, rfl, hx0, hy0⟩ := two_args hargs
        exact opS_max hop hx0 hy0 h
      · rename_i b1 o1 n1 b2 o2 n2 hargs
        obtain ⟨x0, y0, rfl, hx0, hy0⟩ := two_args hargs
        split at h
        · rename_i e ht
          simp only [Option.bind_eq_some_iff] at ht
          obtain ⟨t, hat, ht⟩ := ht
          split at h
          · rename_i i cs ds hi hH1 hH2
            obtain ⟨h1, h2⟩ := cond_false h
            simp only [Bool.and_eq_true] at h1
            exact opS_copy hop hat ht hi (Nat.eq_of_beq_eq_true h1.1.1) hx0 hy0 hH1 hH2 (Nat.le_of_ble_eq_true h1.1.2) (Nat.le_of_ble_eq_true h1.2) h2
          · exact h.elim
        · exact h.elim
      · rename_i s x hargs
        obtain ⟨s0, x0, rfl, hs0, hx0⟩ : ∃ s0 x0, args = #[s0, x0] ∧ aeval a s0 = s ∧ aeval a x0 = x := by
          rcases args with ⟨l⟩
          match l, hargs with
          | [x0, y0], hargs => simp at hargs; exact ⟨x0, y0, rfl, hargs.1, hargs.2⟩
        split at h
        · rename_i t t' hat
          split at h
          · rename_i htt
            subst htt
            split at h
            · rename_i e ht
              split at h
              · rename_i i ys hi hys
                cases hb0 : (Nat.blt 0 i.size && zsz P e) with
                | false => rw [hb0] at h; exact h.elim
                | true =>
                rw [hb0] at h
                simp only [Bool.and_eq_true, Nat.blt_eq] at hb0
                obtain ⟨h0, hz⟩ := hb0
                simp only [cond_true] at h
                split at h
                · obtain ⟨⟨c1, c2, c3⟩, c4⟩ := h
                  simp only [Nat.zero_add] at c2 c3
                  exact (opS_append_core hop hat ht hi hz h0 (by rw [hx0]; exact hys) c1).1 hs0 c2 c3 c4
                · rename_i b
                  split at h
                  · rename_i wr e' sz es hH
                    cases hb1 : (Nat.beq e' e && Nat.beq sz i.size) with
                    | false => rw [hb1] at h; exact h.elim
                    | true =>
                    rw [hb1] at h
                    simp only [Bool.and_eq_true, Nat.beq_eq] at hb1
                    obtain ⟨rfl, rfl⟩ := hb1
                    obtain ⟨⟨c1, c2, c3⟩, c4⟩ := h
                    exact (opS_append_core hop hat ht hi hz h0 (by rw [hx0]; exact hys) c1).2 b wr es hs0 hH c2 c3 c4
                  · exact h.elim
                · exact h.elim
              · exact h.elim
            · exact h.elim
          · exact h.elim
        · exact h.elim
      · exact h.elim
    | value f =>
      simp only at h
      split at h
      · rename_i g first cap hf
        exact opS_call hT hop rfl hf h
      · exact h.elim
    | invoke r m => simp only at h
  | _ => rw [hop] at h; exact h.elim

end Go.Abs

