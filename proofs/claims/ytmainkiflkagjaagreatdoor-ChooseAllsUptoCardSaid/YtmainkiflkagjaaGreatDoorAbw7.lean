/-
(*bytes.Buffer).grow of an empty slice that isn't nil and has no room.
-/
import Derived.Test.YtmainkiflkagjaaGreatDoorAbw6
import Derived.Lib.BufferSrc
import Derived.Laws.IdiomCopy
import Derived.KernelRfl
import Derived.Laws.BitsAllLaws
import Derived.Laws.BitsLemmas
import Derived.IntWalk
import Derived.Test.YtmainkiflkagjaaGreatDoorChecked
import Derived.Laws.Strings
import Derived.Shelf.SlGeneric
import Derived.Shelf.LaysM
import Derived.Ground.NamesProg
namespace Go.Abs
open Go Go.Proofs Go.Shelf Go.RowKit
variable {P : Program} {ρ : Ren}

set_option maxHeartbeats 6400000 in
set_option maxRecDepth 100000 in
theorem growSlice_some (L : LaysM.n290 P ρ) (A : Addr) (n : Nat) (w : World) (hn : 1 ≤ n) (hlim : n ≤ 140737488355328) :
    Calls P (ρ.f 290) #[.slice (some A) 0 0, .int .i64 n] w fun e w' => ∃ cap2 cells, e = .returned (.slice (some ⟨w.heap.size, 0, none⟩) 0 cap2) ∧ w'.heap[w.heap.size]? = some (.cells cells (ρ.t 5) (0, 0)) ∧
      cells.size = cap2 ∧ n ≤ cap2 ∧ cap2 ≤ maxLen ∧ Below w.heap.size w w' := by
  have mixed := L.mixed
  have t5 := L.t5; have a5 := L.a5; have z5 := L.z5; have v5 := L.v5
  have t37 := L.t37; have a37 := L.a37; have z37 := L.z37; have v37 := L.v37
  have t3 := L.t3; have a3 := L.a3; have z3 := L.z3; have v3 := L.v3
  have t0 := L.t0; have a0 := L.a0; have z0 := L.z0; have v0 := L.v0
  have t4 := L.t4; have a4 := L.a4; have z4 := L.z4; have v4 := L.v4
  obtain ⟨i0, hi, hz0, hz1, hz2⟩ := info_parts L.i5
  have happ := Lib.run_append_nil_zeros (P := P) w (ρ.t 37) (ρ.t 3) (ρ.t 37) (ρ.t 5) i0 (.int .u8 0) .i64 .i64 L.t37 L.t3 hi hz0 n (by omega) (by omega) (by omega) (by rw [hz2]; omega)
  generalize hcap : grownCap w n 0 (ρ.t 5) = cap2 at happ
  have hcapge : n ≤ cap2 := by rw [← hcap]; exact grownCap_ge w _ 0 (ρ.t 5)
  have hcaple : cap2 ≤ maxLen := by rw [← hcap]; exact grownCap_le_maxLen w _ 0 (ρ.t 5) (by unfold maxLen; omega)
  generalize hZ : (Builtin.zeroCells (Value.int .u8 0).cells n ++ Builtin.zeroCells (Value.int .u8 0).cells (cap2 - n)) = Z at happ
  have hZs : Z.size = cap2 := by rw [← hZ]; simp [size_zeroCells, Value.cells]; omega
  clear hcap hZ
  have hcopy := run_copy_none (P := P) (w.alloc (.cells Z (ρ.t 5))).drew (ρ.t 37) (ρ.t 37) (ρ.t 3) (ρ.t 5) (some ⟨w.heap.size, 0, none⟩) (some A) n cap2 0 0 L.t37 (by rw [hi, ← hz1]; rfl) (by simp)
  go_enter_defers L.f290, Body.n290_ntmps ρ
  go_wp2_with (at_builtin; refine Lib.wpList_append_run _ rfl _ _ _ _ rfl _ _ rfl rfl _ _ happ ?_)
  refine leaves_cons (f := (ρ.f 324)) (args := #[]) (by simp) (enters_of L.f324 (by kernel_rfl) rfl _ _) ?_
  refine (Any.growSlice_catch_idle { L with } _).mono ?_
  rintro e u' w'' ⟨rfl, rfl, rfl⟩
  refine ⟨_, results_tmp rfl _ _ _, ?_⟩
  exact ⟨cap2, Z, rfl, heap_alloc_new w _, hZs, hcapge, hcaple, ⟨rfl, rfl, rfl, by simp, fun k hk => Below.heap_alloc w _ k hk⟩⟩


set_option maxHeartbeats 2000000 in
set_option maxRecDepth 100000 in
theorem len_some (L : LaysM.n181 P ρ) (T : TypeId) (R : Nat → Option Value) (b q : Nat) (A : Addr) (lr : Int) (w : World) (h : LibA.Three w b q T R (.slice (some A) 0 0) (.int .i64 0) (.int .i8 lr)) :
    Calls P (ρ.f 181) #[.pointer (some ⟨b, q, none⟩)] w fun e w' => e = .returned (.int .i64 0) ∧ ∃ k, w' = w.drewN k := by
  have mixed := L.mixed
  have t5 := L.t5; have a5 := L.a5; have z5 := L.z5; have v5 := L.v5
  have t130 := L.t130; have a130 := L.a130; have z130 := L.z130; have v130 := L.v130
  have t3 := L.t3; have a3 := L.a3; have z3 := L.z3; have v3 := L.v3
  have t0 := L.t0; have a0 := L.a0; have z0 := L.z0; have v0 := L.v0
  have t93 := L.t93; have u93 := run_underlying L.t93; have a93 := L.a93; have z93 := L.z93; have v93 := L.v93
  have t37 := L.t37; have a37 := L.a37; have z37 := L.z37; have v37 := L.v37
  have c0 : w.cell? ⟨b, q, none⟩ = some (.slice (some A) 0 0) := h.c0
  have c1 : w.cell? ⟨b, q + 1, none⟩ = some (.int .i64 0) := h.c1
  go_enter L.f181, Body.n181_ntmps ρ
  go_wp2
  go_region_o
  all_goals (go_wp2; go_ret; exact ⟨by simp, 1, rfl⟩)

set_option maxHeartbeats 12800000 in
set_option maxRecDepth 100000 in
theorem grow_some (L : LaysM.n252 P ρ) (T : TypeId) (R : Nat → Option Value) (b q n : Nat) (A : Addr) (lr : Int) (w : World)
    (hbk : LibA.Three w b q T R (.slice (some A) 0 0) (.int .i64 0) (.int .i8 lr)) (hn : 1 ≤ n) (hlim : n ≤ 140737488355328) :
    Calls P (ρ.f 252) #[.pointer (some ⟨b, q, none⟩), .int .i64 n] w fun e w' => e = .returned (.int .i64 0) ∧ Moved w b q T R (ρ.t 5) lr 0 n [] w' := by
  have mixed := L.mixed
  have t5 := L.t5; have a5 := L.a5; have z5 := L.z5; have v5 := L.v5
  have t130 := L.t130; have a130 := L.a130; have z130 := L.z130; have v130 := L.v130
  have t3 := L.t3; have a3 := L.a3; have z3 := L.z3; have v3 := L.v3
  have t4 := L.t4; have a4 := L.a4; have z4 := L.z4; have v4 := L.v4
  have t0 := L.t0; have a0 := L.a0; have z0 := L.z0; have v0 := L.v0
  have t93 := L.t93; have u93 := run_underlying L.t93; have a93 := L.a93; have z93 := L.z93; have v93 := L.v93
  have t131 := L.t131; have a131 := L.a131; have z131 := L.z131; have v131 := L.v131
  have t37 := L.t37; have a37 := L.a37; have z37 := L.z37; have v37 := L.v37
  have t75 := L.t75; have a75 := L.a75; have z75 := L.z75; have v75 := L.v75
  have e181 : ∀ args w, (callFunc (ρ.f 181) args).run P w = .ok (.enter (ρ.f 181) args) w := enters_of L.f181 (by kernel_rfl) rfl
  have e251 : ∀ args w, (callFunc (ρ.f 251) args).run P w = .ok (.enter (ρ.f 251) args) w := enters_of L.f251 (by kernel_rfl) rfl
  have e290 : ∀ args w, (callFunc (ρ.f 290) args).run P w = .ok (.enter (ρ.f 290) args) w := enters_of L.f290 (by kernel_rfl) rfl
  have hnil : ∀ W, (binOp .eql (ρ.t 37) (.slice (some A) 0 0) (.slice none 0 0)).run P W = .ok (.bool false) W := fun W => Lib.run_eql_slice_some_nil W _ _ _ L.t37
  go_enter L.f252, Body.n252_ntmps ρ
  go_wp2_with (go_at_fn (ρ.f 181); refine (len_some { L with } T R b q A lr w hbk).mono ?_)
  rintro e W0 ⟨rfl, k, hW0⟩
  have hbk0 : LibA.Three W0 b q T R (.slice (some A) 0 0) (.int .i64 0) (.int .i8 lr) := by rw [hW0]; exact hbk
  have c0 : W0.cell? ⟨b, q, none⟩ = some (.slice (some A) 0 0) := hbk0.c0
  have c1 : W0.cell? ⟨b, q + 1, none⟩ = some (.int .i64 0) := hbk0.c1
  have f0 : W0.frozen? ⟨b, q, none⟩ = false := hbk0.f q
  have f1 : W0.frozen? ⟨b, q + 1, none⟩ = false := hbk0.f (q + 1)
  have HW0 := Lib.hid hW0
  clear hW0
  go_wp2_with (go_at_fn (ρ.f 251); refine (Any.Buffer_tryGrow_none_at { L with } b q _ 0 0 n _ c0 (Nat.le_refl _) (Nat.zero_le _) (by omega)).mono ?_; rintro e w' ⟨rfl, rfl⟩)
  have hbW := hbk0.lt
  have hwn : IntKind.i64.wrap (n : Int) = n := by rw [IntKind.wrap_i64]; omega
  go_region_with_o (
      go_at_fn (ρ.f 290)
      refine (growSlice_some { L with } A n _ hn hlim).mono ?_
      rintro e w2 ⟨cap2, cells, rfl, hN, hcsz, hcap2, hm2, hbel⟩
      have hbk2 : LibA.Three w2 b q T R (.slice (some A) 0 0) (.int .i64 0) (.int .i8 lr) := hbk0.of_heap (hbel.block b hbW)
      have d0 : w2.cell? ⟨b, q, none⟩ = some (.slice (some A) 0 0) := hbk2.c0
      have d1 : w2.cell? ⟨b, q + 1, none⟩ = some (.int .i64 0) := hbk2.c1
      have e0 : w2.frozen? ⟨b, q, none⟩ = false := hbk2.f q
      have e1 : w2.frozen? ⟨b, q + 1, none⟩ = false := hbk2.f (q + 1))
  all_goals (
    go_wp2
    go_ret
    have hsz0 : w.heap.size = w'.heap.size := by rw [HW0.out]; rfl
    have hg2 : w.grownBy w2 (some b) := Lib.grownBy_below (w := w'.drew) (by rw [HW0.out]; exact ⟨rfl, rfl, rfl, Nat.le_refl _, fun _ _ _ => rfl⟩) hbel
    exact ⟨rfl, moved_mk (w := w) (l := 0) (n := n) hbk2 hN (by show w.heap.size ≤ w'.heap.size; omega) (by show w'.heap.size ≠ b; omega) hcsz List.take_zero (by omega) hm2 hg2 (by simp)⟩)


end Go.Abs

/-
(*bytes.Buffer).grow of nil, many bytes.
-/
namespace Go.Abs
open Go Go.Proofs Go.Shelf Go.RowKit
variable {P : Program} {ρ : Ren}

set_option maxHeartbeats 12800000 in
set_option maxRecDepth 100000 in
theorem grow_nil_big (L : LaysM.n252 P ρ) (T : TypeId) (R : Nat → Option Value) (b q n : Nat) (lr : Int) (w : World)
    (hbk : LibA.Three w b q T R (.slice none 0 0) (.int .i64 0) (.int .i8 lr)) (h64 : 64 < n) (hlim : n ≤ 140737488355328) :
    Calls P (ρ.f 252) #[.pointer (some ⟨b, q, none⟩), .int .i64 n] w fun e w' => e = .returned (.int .i64 0) ∧ Moved w b q T R (ρ.t 5) lr 0 n [] w' := by
  have mixed := L.mixed
  have t5 := L.t5; have a5 := L.a5; have z5 := L.z5; have v5 := L.v5
  have t130 := L.t130; have a130 := L.a130; have z130 := L.z130; have v130 := L.v130
  have t3 := L.t3; have a3 := L.a3; have z3 := L.z3; have v3 := L.v3
  have t4 := L.t4; have a4 := L.a4; have z4 := L.z4; have v4 := L.v4
  have t0 := L.t0; have a0 := L.a0; have z0 := L.z0; have v0 := L.v0
  have t93 := L.t93; have u93 := run_underlying L.t93; have a93 := L.a93; have z93 := L.z93; have v93 := L.v93
  have t131 := L.t131; have a131 := L.a131; have z131 := L.z131; have v131 := L.v131
  have t37 := L.t37; have a37 := L.a37; have z37 := L.z37; have v37 := L.v37
  have t75 := L.t75; have a75 := L.a75; have z75 := L.z75; have v75 := L.v75
  have e181 : ∀ args w, (callFunc (ρ.f 181) args).run P w = .ok (.enter (ρ.f 181) args) w := enters_of L.f181 (by kernel_rfl) rfl
  have e251 : ∀ args w, (callFunc (ρ.f 251) args).run P w = .ok (.enter (ρ.f 251) args) w := enters_of L.f251 (by kernel_rfl) rfl
  have e290 : ∀ args w, (callFunc (ρ.f 290) args).run P w = .ok (.enter (ρ.f 290) args) w := enters_of L.f290 (by kernel_rfl) rfl
  have hn : 1 ≤ n := by omega
  have hIs : LibA.IsBuffer T R (ρ.t 5) 0 b q [] w := ⟨Nat.zero_le _, _, _, hbk, World.ownsRow_nil _ _ _ _, by simp [Value.ownBlock]⟩
  have hnil : ∀ W, (binOp .eql (ρ.t 37) (.slice none 0 0) (.slice none 0 0)).run P W = .ok (.bool true) W := fun W => Lib.run_eql_slice_nil_nil W _ _ L.t37
  go_enter L.f252, Body.n252_ntmps ρ
  go_wp2_with (go_at_fn (ρ.f 181); refine (Any.Buffer_Len_at { L with } T R 0 b q [] _ hIs).mono ?_)
  rintro e W0 ⟨rfl, k, hW0⟩
  have hbk0 : LibA.Three W0 b q T R (.slice none 0 0) (.int .i64 0) (.int .i8 lr) := by rw [hW0]; exact hbk
  have c0 : W0.cell? ⟨b, q, none⟩ = some (.slice none 0 0) := hbk0.c0
  have c1 : W0.cell? ⟨b, q + 1, none⟩ = some (.int .i64 0) := hbk0.c1
  have f0 : W0.frozen? ⟨b, q, none⟩ = false := hbk0.f q
  have f1 : W0.frozen? ⟨b, q + 1, none⟩ = false := hbk0.f (q + 1)
  have HW0 := Lib.hid hW0
  clear hW0 hIs
  go_wp2_with (go_at_fn (ρ.f 251); refine (Any.Buffer_tryGrow_none_at { L with } b q _ 0 0 n _ c0 (Nat.le_refl _) (Nat.zero_le _) (by omega)).mono ?_; rintro e w' ⟨rfl, rfl⟩)
  have hbW := hbk0.lt
  have hwn : IntKind.i64.wrap (n : Int) = n := by rw [IntKind.wrap_i64]; omega
  go_region_with_o (
      go_at_fn (ρ.f 290)
      refine (Any.bytes_growSlice_nil { L with } n _ hn hlim).mono ?_
      rintro e w2 ⟨cap2, cells, rfl, hN, hcsz, hcap2, hm2, hbel⟩
      have hbk2 : LibA.Three w2 b q T R (.slice none 0 0) (.int .i64 0) (.int .i8 lr) := hbk0.of_heap (hbel.block b hbW)
      have d0 : w2.cell? ⟨b, q, none⟩ = some (.slice none 0 0) := hbk2.c0
      have d1 : w2.cell? ⟨b, q + 1, none⟩ = some (.int .i64 0) := hbk2.c1
      have e0 : w2.frozen? ⟨b, q, none⟩ = false := hbk2.f q
      have e1 : w2.frozen? ⟨b, q + 1, none⟩ = false := hbk2.f (q + 1))
  all_goals (
    go_wp2
    go_ret
    have hsz0 : w.heap.size = w'.heap.size := by rw [HW0.out]; rfl
    have hg2 : w.grownBy w2 (some b) := Lib.grownBy_below (w := w'.drew) (by rw [HW0.out]; exact ⟨rfl, rfl, rfl, Nat.le_refl _, fun _ _ _ => rfl⟩) hbel
    exact ⟨rfl, moved_mk (w := w) (l := 0) (n := n) hbk2 hN (by show w.heap.size ≤ w'.heap.size; omega) (by show w'.heap.size ≠ b; omega) hcsz List.take_zero (by omega) hm2 hg2 (by simp)⟩)

end Go.Abs

/-
(*bytes.Buffer).grow of a row that holds no byte.
-/
namespace Go.Abs
open Go Go.Proofs Go.Shelf Go.RowKit
variable {P : Program} {ρ : Ren}

set_option maxHeartbeats 12800000 in
set_option maxRecDepth 100000 in
theorem grow_row0 (L : LaysM.n252 P ρ) (T : TypeId) (R : Nat → Option Value) (b q g cap n : Nat) (lr : Int) (cur : Array Value) (bs : List Value) (w : World)
    (hbk : LibA.Three w b q T R (.slice (some ⟨g, 0, none⟩) 0 cap) (.int .i64 0) (.int .i8 lr)) (hl : bs.length = 0) (hg : w.heap[g]? = some (.cells cur (ρ.t 5) (0, 0))) (hlc : 0 ≤ cap) (hcm : cap ≤ maxLen) (hcs : cur.size = cap) (htake : cur.toList.take 0 = bs) (hgb : g ≠ b)
    (h1 : ∀ v ∈ bs, v.oneCell' = true) (hn : 1 ≤ n) (hroom : cap - 0 < n) (hlim : 0 + n ≤ 140737488355328) :
    Calls P (ρ.f 252) #[.pointer (some ⟨b, q, none⟩), .int .i64 n] w fun e w' => e = .returned (.int .i64 0) ∧ Moved w b q T R (ρ.t 5) lr 0 n bs w' := by
  have mixed := L.mixed
  have t5 := L.t5; have a5 := L.a5; have z5 := L.z5; have v5 := L.v5
  have t130 := L.t130; have a130 := L.a130; have z130 := L.z130; have v130 := L.v130
  have t3 := L.t3; have a3 := L.a3; have z3 := L.z3; have v3 := L.v3
  have t4 := L.t4; have a4 := L.a4; have z4 := L.z4; have v4 := L.v4
  have t0 := L.t0; have a0 := L.a0; have z0 := L.z0; have v0 := L.v0
  have t93 := L.t93; have u93 := run_underlying L.t93; have a93 := L.a93; have z93 := L.z93; have v93 := L.v93
  have t131 := L.t131; have a131 := L.a131; have z131 := L.z131; have v131 := L.v131
  have t37 := L.t37; have a37 := L.a37; have z37 := L.z37; have v37 := L.v37
  have t75 := L.t75; have a75 := L.a75; have z75 := L.z75; have v75 := L.v75
  have e181 : ∀ args w, (callFunc (ρ.f 181) args).run P w = .ok (.enter (ρ.f 181) args) w := enters_of L.f181 (by kernel_rfl) rfl
  have e251 : ∀ args w, (callFunc (ρ.f 251) args).run P w = .ok (.enter (ρ.f 251) args) w := enters_of L.f251 (by kernel_rfl) rfl
  have e290 : ∀ args w, (callFunc (ρ.f 290) args).run P w = .ok (.enter (ρ.f 290) args) w := enters_of L.f290 (by kernel_rfl) rfl
  have hIs : LibA.IsBuffer T R (ρ.t 5) 0 b q bs w := ⟨Nat.zero_le _, _, _, hbk, ⟨by rw [hl, Nat.mul_one], .inr ⟨g, cap, cur, by rw [hl], Nat.zero_le _, hg, by omega, hcm, by omega, by rw [hl, Nat.mul_one]; exact htake⟩⟩, by simp [Value.ownBlock]; exact hgb⟩
  have hnil : ∀ W, (binOp .eql (ρ.t 37) (.slice (some ⟨g, 0, none⟩) 0 cap) (.slice none 0 0)).run P W = .ok (.bool false) W := fun W => Lib.run_eql_slice_some_nil W _ _ _ L.t37
  go_enter L.f252, Body.n252_ntmps ρ
  go_wp2_with (go_at_fn (ρ.f 181); refine (Any.Buffer_Len_at { L with } T R 0 b q bs _ hIs).mono ?_)
  rintro e W0 ⟨rfl, k, hW0⟩
  rw [hl]
  have hbk0 : LibA.Three W0 b q T R (.slice (some ⟨g, 0, none⟩) 0 cap) (.int .i64 0) (.int .i8 lr) := by rw [hW0]; exact hbk
  have hg0 : W0.heap[g]? = some (.cells cur (ρ.t 5) (0, 0)) := by rw [hW0]; exact hg
  have c0 : W0.cell? ⟨b, q, none⟩ = some (.slice (some ⟨g, 0, none⟩) 0 cap) := hbk0.c0
  have c1 : W0.cell? ⟨b, q + 1, none⟩ = some (.int .i64 0) := hbk0.c1
  have f0 : W0.frozen? ⟨b, q, none⟩ = false := hbk0.f q
  have f1 : W0.frozen? ⟨b, q + 1, none⟩ = false := hbk0.f (q + 1)
  have HW0 := Lib.hid hW0
  clear hW0 hIs
  have hcm' := hcm
  unfold maxLen at hcm'
  go_wp2_with (go_at_fn (ρ.f 251); refine (Any.Buffer_tryGrow_none_at { L with } b q _ 0 cap n _ c0 hlc hcm hroom).mono ?_; rintro e w' ⟨rfl, rfl⟩)
  have hc2 : cap ≤ 140737488355328 := by omega
  have h1' : ∀ v ∈ cur.toList.take 0, v.oneCell' = true := by rw [htake]; exact h1
  have hbW := hbk0.lt
  have hwn : IntKind.i64.wrap (n : Int) = n := by rw [IntKind.wrap_i64]; omega
  go_region_with_o (
      go_at_fn (ρ.f 290)
      refine (Any.bytes_growSlice_row { L with } g 0 cap n cur _ ?_ hcs hlc hn hlim hc2 h1').mono ?_
      exact hg0
      rintro e w2 ⟨cap2, cells, rfl, hN, hcsz, htk, hcap2, hm2, hbel⟩
      have hbk2 : LibA.Three w2 b q T R (.slice (some ⟨g, 0, none⟩) 0 cap) (.int .i64 0) (.int .i8 lr) := hbk0.of_heap (hbel.block b hbW)
      have d0 : w2.cell? ⟨b, q, none⟩ = some (.slice (some ⟨g, 0, none⟩) 0 cap) := hbk2.c0
      have d1 : w2.cell? ⟨b, q + 1, none⟩ = some (.int .i64 0) := hbk2.c1
      have e0 : w2.frozen? ⟨b, q, none⟩ = false := hbk2.f q
      have e1 : w2.frozen? ⟨b, q + 1, none⟩ = false := hbk2.f (q + 1))
  all_goals (
    go_wp2
    go_ret
    have hsz0 : w.heap.size = w'.heap.size := by rw [HW0.out]; rfl
    have hg2 : w.grownBy w2 (some b) := Lib.grownBy_below (w := w'.drew) (by rw [HW0.out]; exact ⟨rfl, rfl, rfl, Nat.le_refl _, fun _ _ _ => rfl⟩) hbel
    exact ⟨rfl, moved_mk (w := w) (l := 0) (n := n) hbk2 hN (by show w.heap.size ≤ w'.heap.size; omega) (by show w'.heap.size ≠ b; omega) hcsz (htk.trans htake) hcap2 hm2 hg2 (by simp)⟩)

end Go.Abs

/-
(*bytes.Buffer).grow of a row.
-/
namespace Go.Abs
open Go Go.Proofs Go.Shelf Go.RowKit
variable {P : Program} {ρ : Ren}

set_option maxHeartbeats 12800000 in
set_option maxRecDepth 100000 in
theorem grow_row (L : LaysM.n252 P ρ) (T : TypeId) (R : Nat → Option Value) (b q g l cap n : Nat) (lr : Int) (cur : Array Value) (bs : List Value) (w : World)
    (hbk : LibA.Three w b q T R (.slice (some ⟨g, 0, none⟩) l cap) (.int .i64 0) (.int .i8 lr)) (hl : bs.length = l) (hg : w.heap[g]? = some (.cells cur (ρ.t 5) (0, 0))) (hlc : l ≤ cap) (hcm : cap ≤ maxLen) (hcs : cur.size = cap) (htake : cur.toList.take l = bs) (hgb : g ≠ b)
    (h1 : ∀ v ∈ bs, v.oneCell' = true) (hn : 1 ≤ n) (hroom : cap - l < n) (hlim : l + n ≤ 140737488355328) :
    Calls P (ρ.f 252) #[.pointer (some ⟨b, q, none⟩), .int .i64 n] w fun e w' => e = .returned (.int .i64 l) ∧ Moved w b q T R (ρ.t 5) lr l n bs w' := by
  have mixed := L.mixed
  have t5 := L.t5; have a5 := L.a5; have z5 := L.z5; have v5 := L.v5
  have t130 := L.t130; have a130 := L.a130; have z130 := L.z130; have v130 := L.v130
  have t3 := L.t3; have a3 := L.a3; have z3 := L.z3; have v3 := L.v3
  have t4 := L.t4; have a4 := L.a4; have z4 := L.z4; have v4 := L.v4
  have t0 := L.t0; have a0 := L.a0; have z0 := L.z0; have v0 := L.v0
  have t93 := L.t93; have u93 := run_underlying L.t93; have a93 := L.a93; have z93 := L.z93; have v93 := L.v93
  have t131 := L.t131; have a131 := L.a131; have z131 := L.z131; have v131 := L.v131
  have t37 := L.t37; have a37 := L.a37; have z37 := L.z37; have v37 := L.v37
  have t75 := L.t75; have a75 := L.a75; have z75 := L.z75; have v75 := L.v75
  have e181 : ∀ args w, (callFunc (ρ.f 181) args).run P w = .ok (.enter (ρ.f 181) args) w := enters_of L.f181 (by kernel_rfl) rfl
  have e251 : ∀ args w, (callFunc (ρ.f 251) args).run P w = .ok (.enter (ρ.f 251) args) w := enters_of L.f251 (by kernel_rfl) rfl
  have e290 : ∀ args w, (callFunc (ρ.f 290) args).run P w = .ok (.enter (ρ.f 290) args) w := enters_of L.f290 (by kernel_rfl) rfl
  by_cases hl0 : l = 0
  · subst hl0
    exact grow_row0 L T R b q g cap n lr cur bs w hbk hl hg hlc hcm hcs htake hgb h1 hn hroom hlim
  have hIs : LibA.IsBuffer T R (ρ.t 5) 0 b q bs w := ⟨Nat.zero_le _, _, _, hbk, ⟨by rw [hl, Nat.mul_one], .inr ⟨g, cap, cur, by rw [hl], Nat.zero_le _, hg, by omega, hcm, by omega, by rw [hl, Nat.mul_one]; exact htake⟩⟩, by simp [Value.ownBlock]; exact hgb⟩
  have hnil : ∀ W, (binOp .eql (ρ.t 37) (.slice (some ⟨g, 0, none⟩) l cap) (.slice none 0 0)).run P W = .ok (.bool false) W := fun W => Lib.run_eql_slice_some_nil W _ _ _ L.t37
  go_enter L.f252, Body.n252_ntmps ρ
  go_wp2_with (go_at_fn (ρ.f 181); refine (Any.Buffer_Len_at { L with } T R 0 b q bs _ hIs).mono ?_)
  rintro e W0 ⟨rfl, k, hW0⟩
  rw [hl]
  have hbk0 : LibA.Three W0 b q T R (.slice (some ⟨g, 0, none⟩) l cap) (.int .i64 0) (.int .i8 lr) := by rw [hW0]; exact hbk
  have hg0 : W0.heap[g]? = some (.cells cur (ρ.t 5) (0, 0)) := by rw [hW0]; exact hg
  have c0 : W0.cell? ⟨b, q, none⟩ = some (.slice (some ⟨g, 0, none⟩) l cap) := hbk0.c0
  have c1 : W0.cell? ⟨b, q + 1, none⟩ = some (.int .i64 0) := hbk0.c1
  have f0 : W0.frozen? ⟨b, q, none⟩ = false := hbk0.f q
  have f1 : W0.frozen? ⟨b, q + 1, none⟩ = false := hbk0.f (q + 1)
  have HW0 := Lib.hid hW0
  clear hW0 hIs
  have hcm' := hcm
  unfold maxLen at hcm'
  go_wp2_with (go_at_fn (ρ.f 251); refine (Any.Buffer_tryGrow_none_at { L with } b q _ l cap n _ c0 hlc hcm hroom).mono ?_; rintro e w' ⟨rfl, rfl⟩)
  have hc2 : cap ≤ 140737488355328 := by omega
  have h1' : ∀ v ∈ cur.toList.take l, v.oneCell' = true := by rw [htake]; exact h1
  have hbW := hbk0.lt
  have hwn : IntKind.i64.wrap (n : Int) = n := by rw [IntKind.wrap_i64]; omega
  go_region_with_o (
      go_at_fn (ρ.f 290)
      refine (Any.bytes_growSlice_row { L with } g l cap n cur _ ?_ hcs hlc hn hlim hc2 h1').mono ?_
      exact hg0
      rintro e w2 ⟨cap2, cells, rfl, hN, hcsz, htk, hcap2, hm2, hbel⟩
      have hbk2 : LibA.Three w2 b q T R (.slice (some ⟨g, 0, none⟩) l cap) (.int .i64 0) (.int .i8 lr) := hbk0.of_heap (hbel.block b hbW)
      have d0 : w2.cell? ⟨b, q, none⟩ = some (.slice (some ⟨g, 0, none⟩) l cap) := hbk2.c0
      have d1 : w2.cell? ⟨b, q + 1, none⟩ = some (.int .i64 0) := hbk2.c1
      have e0 : w2.frozen? ⟨b, q, none⟩ = false := hbk2.f q
      have e1 : w2.frozen? ⟨b, q + 1, none⟩ = false := hbk2.f (q + 1))
  all_goals (
    go_wp2
    go_ret
    have hsz0 : w.heap.size = w'.heap.size := by rw [HW0.out]; rfl
    have hg2 : w.grownBy w2 (some b) := Lib.grownBy_below (w := w'.drew) (by rw [HW0.out]; exact ⟨rfl, rfl, rfl, Nat.le_refl _, fun _ _ _ => rfl⟩) hbel
    exact ⟨rfl, moved_mk (w := w) (l := l) (n := n) hbk2 hN (by show w.heap.size ≤ w'.heap.size; omega) (by show w'.heap.size ≠ b; omega) hcsz (htk.trans htake) hcap2 hm2 hg2 (by simp)⟩)

end Go.Abs

/-
(*bytes.Buffer).Write, where the row lies behind it.
-/
namespace Go.Abs
open Go Go.Proofs Go.Shelf Go.RowKit
variable {P : Program} {ρ : Ren}

/-- A buffer's row. -/
def BRow (w : World) (b : Nat) (e : TypeId) (bs : List Value) (v : Value) (ob : Option Nat) : Prop :=
  (bs = [] ∧ ob = none ∧ ∃ A, v = .slice A 0 0) ∨ ∃ g cap cur, ob = some g ∧ v = .slice (some ⟨g, 0, none⟩) bs.length cap ∧ w.heap[g]? = some (.cells cur e (0, 0)) ∧ bs.length ≤ cap ∧ cap ≤ maxLen ∧ cur.size = cap ∧ cur.toList.take bs.length = bs ∧ g ≠ b

/-- What Write leaves. -/
structure WOut (w : World) (b q : Nat) (T : TypeId) (R : Nat → Option Value) (e : TypeId) (ob : Option Nat) (xs : List Value) (w' : World) : Prop where
  os : w'.os = w.os
  tape : w'.tape = w.tape
  output : w'.output = w.output
  size : w.heap.size ≤ w'.heap.size
  far : ∀ k, k < w.heap.size → k ≠ b → ob ≠ some k → w'.heap[k]? = w.heap[k]?
  buf : ∃ v' ob', LibA.Three w' b q T R v' (.int .i64 0) (.int .i8 0) ∧ BRow w' b e xs v' ob' ∧ (ob' = ob ∨ ∀ k, ob' = some k → w.heap.size ≤ k)

theorem wout_copy {w W1 : World} {b q g l cap n : Nat} {T e : TypeId} {R : Nat → Option Value} {ob : Option Nat} {cur : Array Value} {bs cs : List Value}
    (hg : w.grownBy W1 (some b)) (h3 : LibA.Three W1 b q T R (.slice (some ⟨g, 0, none⟩) (l + n) cap) (.int .i64 0) (.int .i8 0)) (hk : W1.heap[g]? = some (.cells cur e (0, 0)))
    (hl : bs.length = l) (hn : cs.length = n) (hc : l + n ≤ cap) (hm : cap ≤ maxLen) (hcs : cur.size = cap) (htk : cur.toList.take l = bs) (hgb : g ≠ b) (hown : ob = some g ∨ w.heap.size ≤ g) :
    WOut w b q T R e ob (bs ++ cs) (W1.setRow g (cur.toList.take l ++ cs ++ cur.toList.drop (l + n)).toArray) := by
  have hother : ∀ k, k ≠ g → (W1.setRow g (cur.toList.take l ++ cs ++ cur.toList.drop (l + n)).toArray).heap[k]? = W1.heap[k]? := fun k hk => setRow_other _ _ _ _ hk
  have hsz : (cur.toList.take l ++ cs ++ cur.toList.drop (l + n)).toArray.size = cap := by
    simp only [List.size_toArray, List.length_append, List.length_take, List.length_drop, Array.length_toList]
    omega
  refine ⟨hg.os, hg.tape, hg.output, ?_, fun k h1 h2 hv0 => ?_, _, some g, h3.of_heap (hother b (Ne.symm hgb)), .inr ⟨g, cap, _, rfl, by rw [List.length_append, hl, hn], setRow_heap W1 g cur _ e (0, 0) hk, by rw [List.length_append]; omega, hm, hsz, ?_, hgb⟩, ?_⟩
  · have := hg.size
    simp only [World.setRow, Array.size_modify]
    exact this
  · by_cases hkg : k = g
    · subst hkg
      rcases hown with h | h
      · exact absurd h hv0
      · omega
    · rw [hother k hkg]
      exact hg.block k h1 (fun e => h2 (Option.some.inj e))
  · rw [htk, List.take_append_of_le_length (Nat.le_refl _), List.take_of_length_le (Nat.le_refl _)]
  · rcases hown with h | h
    · exact .inl h.symm
    · exact .inr fun k hk => by simp only [Option.some.injEq] at hk; omega

set_option maxHeartbeats 6400000 in
set_option maxRecDepth 100000 in
theorem write_run (L : LaysM.n180 P ρ) (T : TypeId) (R : Nat → Option Value) (b q : Nat) (v0 : Value) (ob : Option Nat) (lr : Int) (bs cs : List Value) (a : Option Addr) (n c : Nat) (w : World)
    (h3 : LibA.Three w b q T R v0 (.int .i64 0) (.int .i8 lr)) (hv : BRow w b (ρ.t 5) bs v0 ob) (h1 : ∀ v ∈ bs, v.oneCell' = true) (hn : cs.length = n)
    (hsrc : n ≠ 0 → ∃ A, a = some A ∧ A.block ≠ b ∧ ∀ j v, cs[j]? = some v → w.cell? (A.add j) = some v) (h1c : ∀ v ∈ cs, v.oneCell' = true) (hlim : bs.length + n ≤ 140737488355328) :
    Calls P (ρ.f 180) #[.pointer (some ⟨b, q, none⟩), .slice a n c] w fun e w' => e = .returned (.tuple #[.int .i64 n, .nilIface]) ∧ WOut w b q T R (ρ.t 5) ob (bs ++ cs) w' := by
  have mixed := L.mixed
  have t5 := L.t5; have a5 := L.a5; have z5 := L.z5; have v5 := L.v5
  have t130 := L.t130; have a130 := L.a130; have z130 := L.z130; have v130 := L.v130
  have t37 := L.t37; have a37 := L.a37; have z37 := L.z37; have v37 := L.v37
  have t3 := L.t3; have a3 := L.a3; have z3 := L.z3; have v3 := L.v3
  have t75 := L.t75; have a75 := L.a75; have z75 := L.z75; have v75 := L.v75
  have t0 := L.t0; have a0 := L.a0; have z0 := L.z0; have v0' := L.v0
  have t93 := L.t93; have u93 := run_underlying L.t93; have a93 := L.a93; have z93 := L.z93; have v93 := L.v93
  have t91 := L.t91; have a91 := L.a91; have z91 := L.z91; have v91 := L.v91
  have t131 := L.t131; have a131 := L.a131; have z131 := L.z131; have v131 := L.v131
  have t4 := L.t4; have a4 := L.a4; have z4 := L.z4; have v4 := L.v4
  have e251 : ∀ args w, (callFunc (ρ.f 251) args).run P w = .ok (.enter (ρ.f 251) args) w := enters_of L.f251 (by kernel_rfl) rfl
  have e252 : ∀ args w, (callFunc (ρ.f 252) args).run P w = .ok (.enter (ρ.f 252) args) w := enters_of L.f252 (by kernel_rfl) rfl
  obtain ⟨ao, cap, hv0, hlc, hcm⟩ : ∃ ao cap, v0 = .slice ao bs.length cap ∧ bs.length ≤ cap ∧ cap ≤ maxLen := by
    rcases hv with ⟨rfl, -, A, rfl⟩ | ⟨g, cap, cur, -, rfl, _, k1, k2, _⟩
    · exact ⟨A, 0, rfl, Nat.le_refl _, Nat.zero_le _⟩
    · exact ⟨_, cap, rfl, k1, k2⟩
  rw [hv0] at h3
  have hV : BRow w b (ρ.t 5) bs (.slice ao bs.length cap) ob := hv0 ▸ hv
  clear hv hv0
  have hinfo : (P.info? (ρ.t 5)).map (·.size) = some 1 := by
    obtain ⟨i0, hi, -, hz1, -⟩ := info_parts L.i5
    rw [hi]; simp [hz1]
  have c2 : w.cell? ⟨b, q + 2, none⟩ = some (.int .i8 lr) := h3.c2
  have f2 : w.frozen? ⟨b, q + 2, none⟩ = false := h3.f (q + 2)
  have hg0 : w.grownBy (w.setCell ⟨b, q + 2, none⟩ (.int .i8 0)) (some b) := Lib.grownBy_setCell w b (q + 2) _
  have h30 := h3.set2 (.int .i8 0)
  have hbne : ∀ g, g ≠ b → (w.setCell ⟨b, q + 2, none⟩ (.int .i8 0)).heap[g]? = w.heap[g]? := fun g hg => Below.heap_setCell _ _ _ _ hg
  have hsz0 : (w.setCell ⟨b, q + 2, none⟩ (.int .i8 0)).heap.size = w.heap.size := by simp [World.setCell]
  have hcm' := hcm
  unfold maxLen at hcm'
  by_cases hr : n ≤ cap - bs.length
  · have hT := fun (W : World) (hW : LibA.Three W b q T R (.slice ao bs.length cap) (.int .i64 0) (.int .i8 0)) => Any.Buffer_tryGrow_room_at { L with } b q ao bs.length cap n W hW.c0 (hW.f q) hlc hcm hr
    by_cases hs0 : n = 0
    · subst hs0
      have hc0 : cs = [] := List.eq_nil_of_length_eq_zero hn
      subst hc0
      have hce : ∀ d dLen dCap W, (Builtin.copy_ #[(ρ.t 37), (ρ.t 37)] (ρ.t 3) #[.slice d dLen dCap, .slice a 0 c]).run P W = .ok (goInt 0) W := fun d dLen dCap W => run_copy_none W (ρ.t 37) (ρ.t 37) (ρ.t 3) (ρ.t 5) d a dLen dCap 0 c L.t37 hinfo (by simp)
      go_enter L.f180, Body.n180_ntmps ρ
      go_wp2_with (go_at_fn (ρ.f 251); refine (hT _ ?_).mono ?_)
      · exact h30
      rintro e W1 ⟨rfl, hW1⟩
      have h31 : LibA.Three W1 b q T R (.slice ao bs.length cap) (.int .i64 0) (.int .i8 0) := by rw [hW1]; simpa using h30.set0 (.slice ao (bs.length + 0) cap)
      have hg1 : w.grownBy W1 (some b) := by rw [hW1]; exact Lib.grownBy_setB hg0 q _
      have d0 : W1.cell? ⟨b, q, none⟩ = some (.slice ao bs.length cap) := h31.c0
      have hend : WOut w b q T R (ρ.t 5) ob bs W1 := by
        refine ⟨hg1.os, hg1.tape, hg1.output, hg1.size, fun k k1 k2 _ => hg1.block k k1 (fun e => k2 (Option.some.inj e)), _, ob, h31, ?_, .inl rfl⟩
        rcases hV with ⟨rfl, hob, A, hA⟩ | ⟨g, cap', cur, hob, hA, m1, m2⟩
        · exact .inl ⟨rfl, hob, A, hA⟩
        · refine .inr ⟨g, cap', cur, hob, hA, ?_, m2⟩
          rw [hW1, Below.heap_setCell _ _ _ _ m2.2.2.2.2, hbne g m2.2.2.2.2]
          exact m1
      clear hW1 hT c2 f2
      cases ao with
      | none =>
        go_wp2
        all_goals (go_ret2; first | exact ⟨rfl, by simpa using hend⟩ | exact ⟨by simp, by simpa using hend⟩)
      | some A0 =>
        go_wp2
        all_goals (go_ret2; first | exact ⟨rfl, by simpa using hend⟩ | exact ⟨by simp, by simpa using hend⟩)
    · have hs2 := hsrc hs0
      clear hsrc
      obtain ⟨A, rfl, hab, hsrc⟩ := hs2
      rcases hV with ⟨rfl, -, A', hA'⟩ | ⟨g, cap', cur, hob, hA, hgc, -, -, hcs, htk, hgb⟩
      · cases hA'
        exact absurd (show n = 0 by simpa using hr) hs0
      cases hA
      go_enter L.f180, Body.n180_ntmps ρ
      go_wp2_with (go_at_fn (ρ.f 251); refine (hT _ ?_).mono ?_)
      · exact h30
      rintro e W1 ⟨rfl, hW1⟩
      have h31 : LibA.Three W1 b q T R (.slice (some ⟨g, 0, none⟩) (bs.length + n) cap) (.int .i64 0) (.int .i8 0) := by rw [hW1]; exact h30.set0 _
      have hg1 : w.grownBy W1 (some b) := by rw [hW1]; exact Lib.grownBy_setB hg0 q _
      have d0 : W1.cell? ⟨b, q, none⟩ = some (.slice (some ⟨g, 0, none⟩) (bs.length + n) cap) := h31.c0
      have hgk : W1.heap[g]? = some (.cells cur (ρ.t 5) (0, 0)) := by rw [hW1, Below.heap_setCell _ _ _ _ hgb, hbne g hgb]; exact hgc
      have hne : ¬ cap = bs.length := by omega
      have hsrc1 : ∀ j v, cs[j]? = some v → W1.cell? (A.add j) = some v := fun j v hj => hg1.cell (hsrc j v hj) (by rw [Lib.block_add]; exact fun e => hab (Option.some.inj e))
      have hcp := run_copy_row (P := P) W1 (ρ.t 37) (ρ.t 37) (ρ.t 3) (ρ.t 5) g bs.length n (cap - bs.length) A n c cur (ρ.t 5) cs L.t37 hinfo hgk (by rw [hn]; exact (Nat.min_self n).symm) hsrc1 (by rw [hn]; omega) h1c
      rw [hn] at hcp
      have hend := wout_copy (ob := ob) hg1 h31 hgk rfl hn (by omega) hcm hcs htk hgb (.inl hob)
      clear hW1 hT c2 f2
      have HO := Lib.hid hob
      clear hob
      rw [htk, List.append_assoc bs cs] at hend
      go_wp2
      go_ret2
      exact ⟨rfl, hend⟩
  · have hs0 : n ≠ 0 := by omega
    have hs2 := hsrc hs0
    clear hsrc
    obtain ⟨A, rfl, hab, hsrc⟩ := hs2
    have hT := fun (W : World) (hW : LibA.Three W b q T R (.slice ao bs.length cap) (.int .i64 0) (.int .i8 0)) => Any.Buffer_tryGrow_none_at { L with } b q ao bs.length cap n W hW.c0 hlc hcm (by omega)
    have hG : Calls P (ρ.f 252) #[.pointer (some ⟨b, q, none⟩), .int .i64 n] (w.setCell ⟨b, q + 2, none⟩ (.int .i8 0)) fun e w' => e = .returned (.int .i64 bs.length) ∧ Moved (w.setCell ⟨b, q + 2, none⟩ (.int .i8 0)) b q T R (ρ.t 5) 0 bs.length n bs w' := by
      rcases hV with ⟨rfl, -, A', hA'⟩ | ⟨g, cap', cur, hob, hA, hgc, -, -, hcs, htk, hgb⟩
      · cases hA'
        simp only [List.length_nil, Nat.zero_add] at hlim
        cases ao with
        | none =>
          by_cases h64 : n ≤ 64
          · exact grow_nil_small { L with } T R b q n 0 _ h30 (by omega) h64
          · exact grow_nil_big { L with } T R b q n 0 _ h30 (by omega) hlim
        | some A0 => exact grow_some { L with } T R b q n A0 0 _ h30 (by omega) hlim
      · cases hA
        exact grow_row { L with } T R b q g bs.length cap n 0 cur bs _ h30 rfl ((hbne g hgb).trans hgc) hlc hcm hcs htk hgb h1 (by omega) (by omega) hlim
    go_enter L.f180, Body.n180_ntmps ρ
    go_wp2_with (go_at_fn (ρ.f 251); refine (hT _ ?_).mono ?_)
    · exact h30
    rintro e W1 ⟨rfl, hW1⟩
    subst hW1
    go_wp2_with (go_at_fn (ρ.f 252); refine hG.mono ?_)
    rintro e W1 ⟨rfl, hgr, g, cap2, cur, h31, hgw, hgk, hnc, hm2, hcs, htk⟩
    have hg1 : w.grownBy W1 (some b) := Lib.grownBy_trans hg0 hgr
    have hgb : g ≠ b := by
      have := h3.lt
      omega
    have d0 : W1.cell? ⟨b, q, none⟩ = some (.slice (some ⟨g, 0, none⟩) (bs.length + n) cap2) := h31.c0
    have hne : ¬ cap2 = bs.length := by omega
    have hsrc1 : ∀ j v, cs[j]? = some v → W1.cell? (A.add j) = some v := fun j v hj => hg1.cell (hsrc j v hj) (by rw [Lib.block_add]; exact fun e => hab (Option.some.inj e))
    have hcp := run_copy_row (P := P) W1 (ρ.t 37) (ρ.t 37) (ρ.t 3) (ρ.t 5) g bs.length n (cap2 - bs.length) A n c cur (ρ.t 5) cs L.t37 hinfo hgk (by rw [hn]; exact (Nat.min_self n).symm) hsrc1 (by rw [hn]; omega) h1c
    rw [hn] at hcp
    have hend := wout_copy (ob := ob) hg1 h31 hgk rfl hn hnc hm2 hcs htk hgb (.inr (by omega))
    have hcm2' := hm2
    unfold maxLen at hcm2'
    clear hT hG c2 f2
    rw [htk, List.append_assoc bs cs] at hend
    go_wp2
    go_ret2
    exact ⟨rfl, hend⟩

end Go.Abs

/-
An abstract machine over values as trees: how loops are proved.
-/
namespace Go.Abs
open Go

/-- A loop with an invariant and a measure; what comes behind a round is hidden. -/
theorem aloop_inv {step : KT → List AV → Heap → Prop} {gc : List AV → Heap → List AV × Heap} {K : KT} {σ : Type} (st : σ → List AV × Heap) (inv : σ → Prop) (μ : σ → Nat)
    (h : ∀ s, inv s → ∀ R : List AV → Heap → Prop, (∀ s', inv s' → μ s' < μ s → R (st s').1 (st s').2) →
      step (fun e a' H' => match e with
        | .normal => R (gc a' H').1 (gc a' H').2
        | e => K e a' H') (st s).1 (st s).2) :
    ∀ n s, inv s → μ s < n → aloop step gc K n (st s).1 (st s).2
  | 0, s, _, hm => absurd hm (Nat.not_lt_zero _)
  | n + 1, s, hi, hm => by
    unfold aloop
    exact h s hi (aloop step gc K n) (fun s' hi' hm' => aloop_inv st inv μ h n s' hi' (by omega))

theorem cond_intro {b : Bool} {X Y : Prop} (h1 : b = true → X) (h2 : b = false → Y) : cond b X Y := by cases b; exact h2 rfl; exact h1 rfl

theorem aloop_at {step : KT → List AV → Heap → Prop} {gc : List AV → Heap → List AV × Heap} {K : KT} {n : Nat} {a a' : List AV} {H H' : Heap} (ha : a = a') (hH : H = H')
    (h : aloop step gc K n a' H') : aloop step gc K n a H := by subst ha; subst hH; exact h

theorem R_at {R : List AV → Heap → Prop} {a a' : List AV} {H H' : Heap} (ha : a = a') (hH : H = H') (h : R a' H') : R a H := by subst ha; subst hH; exact h

/-- Temporaries of which all but a few are forgotten. -/
def sp : Nat → Nat → List (Nat × AV) → List AV
  | _, 0, _ => []
  | i, n + 1, l => match l with
    | [] => .any :: sp (i + 1) n []
    | (j, v) :: r => cond (Nat.beq i j) (v :: sp (i + 1) n r) (.any :: sp (i + 1) n ((j, v) :: r))

/-- Bytes as elements. -/
def bsA (l : List Int) : List (List AV) := l.map fun b => [.int .u8 b]

@[simp] theorem bsA_length (l : List Int) : (bsA l).length = l.length := by simp [bsA]
theorem bsA_append (l r : List Int) : bsA (l ++ r) = bsA l ++ bsA r := by simp [bsA]
theorem bsA_el {l : List Int} {el : List AV} (h : el ∈ bsA l) : el.length = 1 := by
  simp only [bsA, List.mem_map] at h
  obtain ⟨_, _, rfl⟩ := h
  rfl

theorem fits_at {ys ys' : List (List AV)} {sz bytes n : Nat} (h : ys = ys') (hf : FitsA ys' sz bytes n) : FitsA ys sz bytes n := by subst h; exact hf
theorem fits_one {el : List AV} {sz bytes n : Nat} (h : el.length = sz) (hb : (n + 1) * bytes ≤ 140737488355328) (hn : n + 1 ≤ 140737488355328) : FitsA [el] sz bytes n :=
  ⟨fun x hx => (by rw [List.mem_singleton] at hx; subst hx; exact h), hb, hn⟩
theorem fits_bs {l : List Int} {n : Nat} (h : n + l.length ≤ 140737488355328) : FitsA (bsA l) 1 1 n :=
  ⟨fun x hx => bsA_el hx, by simp; omega, by simp; omega⟩

end Go.Abs

/-
Plain laws of numbers and texts as bytes; no program.
-/
namespace Go.Abs
open Go

def encF : Nat → Int → List Int
  | 0, _ => []
  | k + 1, n => if n < 128 then [n] else (n % 128 + 128) :: encF k (n / 128)
/-- A number's bytes. -/
def encI (n : Int) : List Int := encF 6 n
def okI (n : Int) : Bool := decide (0 ≤ n) && decide (n ≤ 2147483647)

theorem encF_stable : ∀ (k : Nat) (n : Int), 0 ≤ n → n < 128 ^ (k + 1) → encF (k + 2) n = encF (k + 1) n
  | 0, n, h0, h => by
    have : n < 128 := by simpa using h
    simp [encF, this]
  | k + 1, n, h0, h => by
    show (if n < 128 then [n] else (n % 128 + 128) :: encF (k + 2) (n / 128)) = if n < 128 then [n] else (n % 128 + 128) :: encF (k + 1) (n / 128)
    by_cases hn : n < 128
    · simp [hn]
    · simp only [hn, if_false]
      rw [encF_stable k (n / 128) (by omega) (by rw [Int.pow_succ] at h; omega)]

theorem encI_small {n : Int} (h : n < 128) : encI n = [n] := by simp [encI, encF, h]
theorem encI_step {n : Int} (h : 128 ≤ n) (h2 : n < 34359738368) : encI n = (n % 128 + 128) :: encI (n / 128) := by
  have : ¬ n < 128 := by omega
  rw [encI, encF, if_neg this, encI, encF_stable 4 (n / 128) (by omega) (by omega)]

theorem encF_len : ∀ (k : Nat) (n : Int), (encF k n).length ≤ k
  | 0, _ => by simp [encF]
  | k + 1, n => by
    unfold encF
    split
    · simp
    · have := encF_len k (n / 128); simp; omega
theorem encI_len (n : Int) : (encI n).length ≤ 6 := encF_len 6 n
theorem encI_pos (n : Int) : 0 < (encI n).length := by
  unfold encI encF
  split <;> simp

/-! ### Words -/
set_option maxRecDepth 10000 in
theorem or128 (y : Int) (h0 : 0 ≤ y) (h1 : y < 256) : bits .or .u8 y 128 = y % 128 + 128 := by
  rw [u8_or y 128 h0 h1 (by decide) (by decide)]
  obtain ⟨m, rfl⟩ := Int.eq_ofNat_of_zero_le h0
  have hm : m < 256 := by omega
  have : ∀ m : Fin 256, (m.val ||| 128) = m.val % 128 + 128 := by decide
  have := this ⟨m, hm⟩
  simp only [Int.toNat_natCast] at *
  show ((m ||| 128 : Nat) : Int) = _
  rw [this]
  omega

theorem byte_or (n : Int) : bits .or .u8 (IntKind.u8.wrap n) 128 = n % 128 + 128 := by
  rw [IntKind.wrap_u8, or128 _ (by omega) (by omega)]
  omega

theorem fdiv128 (n : Int) : n.fdiv (2 ^ (min (7 : Int).toNat IntKind.i64.bits)) = n / 128 := by
  show n.fdiv 128 = n / 128
  rw [Int.fdiv_eq_ediv_of_nonneg _ (by decide)]

theorem i64_or_nat (a b : Nat) (ha : a < 9223372036854775808) (hb : b < 9223372036854775808) : bits .or .i64 (a : Int) (b : Int) = ((a ||| b : Nat) : Int) := by
  have hx : a ||| b < 2 ^ 63 := Nat.or_lt_two_pow (by omega) (by omega)
  have h1 : (BitVec.ofInt 64 (a : Int)).toNat = a := by
    rw [BitVec.ofInt_natCast, BitVec.toNat_ofNat]; exact Nat.mod_eq_of_lt (by omega)
  have h2 : (BitVec.ofInt 64 (b : Int)).toNat = b := by
    rw [BitVec.ofInt_natCast, BitVec.toNat_ofNat]; exact Nat.mod_eq_of_lt (by omega)
  show IntKind.i64.wrap ((BitVec.ofInt 64 (a : Int) ||| BitVec.ofInt 64 (b : Int)).toNat : Int) = _
  rw [BitVec.toNat_or, h1, h2, IntKind.wrap_i64]
  omega

theorem and127 (y : Int) (h0 : 0 ≤ y) (h1 : y < 256) : bits .and .u8 y 127 = y % 128 := by
  rw [u8_and y 127 h0 h1 (by decide) (by decide)]
  obtain ⟨m, rfl⟩ := Int.eq_ofNat_of_zero_le h0
  simp only [Int.toNat_natCast]
  show ((m &&& (2 ^ 7 - 1) : Nat) : Int) = _
  rw [Nat.and_two_pow_sub_one_eq_mod]
  omega

theorem or_disj (a x k : Nat) (h : a < 2 ^ k) : a ||| (x * 2 ^ k) = a + x * 2 ^ k := by
  rw [Nat.or_comm, Nat.mul_comm, ← Nat.two_pow_add_eq_or_of_lt h, Nat.add_comm]

theorem orStep (i : Nat) (hi : i < 5) (n c : Int) (h0 : 0 ≤ n) (hn : n < 128 ^ i) (c0 : 0 ≤ c) (c1 : c < 256) :
    bits .or .i64 n (IntKind.i64.wrap (IntKind.i64.wrap (bits .and .u8 c 127) * 2 ^ (min (IntKind.i64.wrap (7 * (i : Int))).toNat IntKind.i64.bits))) = n + (c % 128) * 128 ^ i := by
  rw [and127 c c0 c1]
  obtain ⟨a, rfl⟩ := Int.eq_ofNat_of_zero_le h0
  obtain ⟨x, hx⟩ := Int.eq_ofNat_of_zero_le (show 0 ≤ c % 128 by omega)
  rw [hx]
  have hx2 : x < 128 := by omega
  have e1 : IntKind.i64.wrap (x : Int) = x := by rw [IntKind.wrap_i64]; omega
  have e2 : IntKind.i64.wrap (7 * (i : Int)) = 7 * i := by rw [IntKind.wrap_i64]; omega
  rw [e1, e2]
  have e3 : min (7 * (i : Int)).toNat IntKind.i64.bits = 7 * i := by show min _ 64 = _; omega
  rw [e3]
  have e4 : (2 : Int) ^ (7 * i) = 128 ^ i := by rw [Int.pow_mul]; rfl
  have ha : a < 2 ^ (7 * i) := by
    have : (a : Int) < 2 ^ (7 * i) := by rw [e4]; exact hn
    exact_mod_cast this
  have hp : 2 ^ (7 * i) ≤ 2 ^ 28 := Nat.pow_le_pow_right (by omega) (by omega)
  have hm : x * 2 ^ (7 * i) ≤ 127 * 2 ^ 28 := Nat.mul_le_mul (by omega) hp
  have e5 : IntKind.i64.wrap ((x : Int) * 2 ^ (7 * i)) = ((x * 2 ^ (7 * i) : Nat) : Int) := by
    rw [show (x : Int) * 2 ^ (7 * i) = ((x * 2 ^ (7 * i) : Nat) : Int) by push_cast; rfl, IntKind.wrap_i64]
    omega
  rw [e5, i64_or_nat _ _ (by omega) (by omega), or_disj a x _ ha, ← e4]
  push_cast
  rfl

end Go.Abs

/-
octet.Int is what it comes to.
-/
namespace Go.Abs
open Go Go.Proofs

theorem mixedT : Tryz.prog.follows .mixedOrders = true := by kernel_rfl

def rowV (l : List (List AV)) : AV := match l with | [] => .zslice | _ => .row 0
def rowH (l : List (List AV)) : Heap := match l with | [] => [] | _ => [.row true 5 1 l]

def g84 : FSpec := fun args K => match args with
  | [.int .i64 n] => cond (okI n) (K (.ret (.tuple [.row 0, .int .i64 0])) [.row true 5 1 (bsA (encI n))]) (K (.ret (.tuple [.zslice, .int .i64 14])) [])
  | _ => False

theorem g84_det (args : List AV) : DetF (g84 args) := by
  unfold g84
  repeat' (first | exact DetF.no | exact DetF.at _ _ | refine DetF.and ?_ | refine DetF.ex fun _ => ?_ | refine DetF.cond ?_ ?_ | split)

set_option maxRecDepth 100000 in
set_option maxHeartbeats 2000000 in
theorem f84_ok (n : Int) (T : Tab) (Q : AOut → Heap → Prop) (hQ : g84 [.int .i64 n] Q) (N : Nat) (hN : n.toNat < N) :
    abody Tryz.prog T 0 N Tryz.f83 [.int .i64 n] [] Q := by
  unfold g84 at hQ
  dsimp only at hQ
  conv => whnf
  split
  · rename_i h1; have h1 : n < 0 := of_decide_eq_true h1
    rw [show okI n = false by simp [okI]; omega] at hQ
    refine Eq.mp ?_ hQ
    kernel_rfl
  rename_i h1; have h1 : ¬ n < 0 := of_decide_eq_false h1
  conv => whnf
  split
  · rename_i h2; have h2 : n > 2147483647 := of_decide_eq_true h2
    rw [show okI n = false by simp [okI]; omega] at hQ
    refine Eq.mp ?_ hQ
    kernel_rfl
  rename_i h2; have h2 : ¬ n > 2147483647 := of_decide_eq_false h2
  rw [show okI n = true by simp [okI]; omega] at hQ
  dsimp only [cond_true] at hQ
  conv => whnf
  refine aloop_at ?_ ?_ (aloop_inv (σ := Int × List (List AV)) (fun s => ([.int .i64 s.1, .any, .any, .any, rowV s.2, .any, .any, .any, .any, .any, .any, .any, .any, .any, .any, .any, .any, .any, .any, .any, .any, .any, .any, .any, .any, .any], rowH s.2))
    (fun s => 0 ≤ s.1 ∧ s.1 < 2147483648 ∧ ∃ pre : List Int, s.2 = bsA pre ∧ encI n = pre ++ encI s.1 ∧ pre.length ≤ 6) (fun s => s.1.toNat) ?_ N (n, []) ⟨by omega, by omega, [], rfl, rfl, by simp⟩ hN)
  · kernel_rfl
  · kernel_rfl
  clear hN h1 h2
  rintro ⟨m, acc⟩ ⟨m1, m2, pre, p1, p2, p3⟩ R hR
  dsimp only at m1 m2 p1 p2 p3
  subst p1
  have hlen := encI_len n
  have hstep : 128 ≤ m → encI n = (pre ++ [m % 128 + 128]) ++ encI (m / 128) := fun h => by rw [p2, encI_step h (by omega)]; simp
  have hlen2 : pre.length + (encI m).length ≤ 6 := by have := congrArg List.length p2; simp only [List.length_append] at this; omega
  have hpos := encI_pos m
  rcases pre with _ | ⟨x, xs⟩
  all_goals
    conv => whnf
    split
  · rename_i h3; have h3 : m ≥ 128 := of_decide_eq_true h3
    conv => whnf
    refine ⟨Eq.mp (α := FitsA [[.int .u8 (bits .or .u8 (IntKind.u8.wrap m) 128)]] 1 1 (bsA []).length) (by kernel_rfl) (fits_one rfl (by decide) (by decide)), ?_⟩
    conv => whnf
    refine R_at (a' := [.int .i64 (m / 128), .any, .any, .any, rowV (bsA [] ++ [[.int .u8 (m % 128 + 128)]]), .any, .any, .any, .any, .any, .any, .any, .any, .any, .any, .any, .any, .any, .any, .any, .any, .any, .any, .any, .any, .any]) (H' := rowH (bsA [] ++ [[.int .u8 (m % 128 + 128)]])) ?_ ?_ (hR (m / 128, bsA [] ++ [[.int .u8 (m % 128 + 128)]]) ⟨by dsimp only; omega, by dsimp only; omega, [] ++ [m % 128 + 128], by simp [bsA], hstep h3, by have := encI_pos (m / 128); have := congrArg List.length (encI_step h3 (by omega)); simp only [List.length_cons, List.length_append, List.length_nil] at *; omega⟩ (by dsimp only; omega))
    · rw [← fdiv128, ← byte_or]; kernel_rfl
    · rw [← byte_or]; kernel_rfl
  · rename_i h3; have h3 : ¬ m ≥ 128 := of_decide_eq_false h3
    conv => whnf
    refine ⟨Eq.mp (α := FitsA [[.int .u8 (IntKind.u8.wrap m)]] 1 1 (bsA []).length) (by kernel_rfl) (fits_one rfl (by decide) (by decide)), ?_⟩
    have he : encI n = [] ++ [IntKind.u8.wrap m] := by rw [p2, encI_small (by omega), IntKind.wrap_u8, Int.emod_eq_of_lt m1 (by omega)]
    rw [he, bsA_append] at hQ
    refine Eq.mp ?_ hQ
    kernel_rfl
  · rename_i h3; have h3 : m ≥ 128 := of_decide_eq_true h3
    conv => whnf
    refine ⟨Eq.mp (α := FitsA [[.int .u8 (bits .or .u8 (IntKind.u8.wrap m) 128)]] 1 1 (bsA (x :: xs)).length) (by kernel_rfl) (fits_one rfl (by simp only [bsA_length, List.length_cons] at *; omega) (by simp only [bsA_length, List.length_cons] at *; omega)), ?_⟩
    conv => whnf
    refine R_at (a' := [.int .i64 (m / 128), .any, .any, .any, rowV (bsA (x :: xs) ++ [[.int .u8 (m % 128 + 128)]]), .any, .any, .any, .any, .any, .any, .any, .any, .any, .any, .any, .any, .any, .any, .any, .any, .any, .any, .any, .any, .any]) (H' := rowH (bsA (x :: xs) ++ [[.int .u8 (m % 128 + 128)]])) ?_ ?_ (hR (m / 128, bsA (x :: xs) ++ [[.int .u8 (m % 128 + 128)]]) ⟨by dsimp only; omega, by dsimp only; omega, (x :: xs) ++ [m % 128 + 128], by simp [bsA], hstep h3, by have := encI_pos (m / 128); have := congrArg List.length (encI_step h3 (by omega)); simp only [List.length_cons, List.length_append, List.length_nil] at *; omega⟩ (by dsimp only; omega))
    · rw [← fdiv128, ← byte_or]; kernel_rfl
    · rw [← byte_or]; kernel_rfl
  · rename_i h3; have h3 : ¬ m ≥ 128 := of_decide_eq_false h3
    conv => whnf
    refine ⟨Eq.mp (α := FitsA [[.int .u8 (IntKind.u8.wrap m)]] 1 1 (bsA (x :: xs)).length) (by kernel_rfl) (fits_one rfl (by simp only [bsA_length, List.length_cons] at *; omega) (by simp only [bsA_length, List.length_cons] at *; omega)), ?_⟩
    have he : encI n = (x :: xs) ++ [IntKind.u8.wrap m] := by rw [p2, encI_small (by omega), IntKind.wrap_u8, Int.emod_eq_of_lt m1 (by omega)]
    rw [he, bsA_append] at hQ
    refine Eq.mp ?_ hQ
    kernel_rfl
theorem s84 {T : Tab} (hT : TGood Tryz.prog T) : SGood Tryz.prog 83 (freshT g84) := freshT_good g84_det fun args Q h => by
  have h0 := h
  unfold g84 at h
  split at h
  · exact body_fresh hT mixedT Tryz.func83 (entersOf Tryz.func83 (by kernel_rfl) rfl) _ (f84_ok _ T Q h0 _ (Nat.lt_succ_self _))
  · exact h.elim

end Go.Abs

/-
Equality of texts, the program's and the document's, is what it comes to.
-/
namespace Go.Abs
open Go Go.Proofs

def okB (l : List Int) : Prop := ∀ b ∈ l, 0 ≤ b ∧ b < 256
def baOf (l : List Int) : ByteArray := ⟨(l.map fun b => UInt8.ofNat b.toNat).toArray⟩
theorem baOf_bytes {l : List Int} (h : okB l) : bytesA (baOf l) = bsA l := by
  simp only [bytesA, baOf, bsA, List.map_map]
  refine List.map_congr_left fun b hb => ?_
  obtain ⟨h0, h1⟩ := h b hb
  simp only [Function.comp]
  congr 2
  rw [UInt8.toNat_ofNat']
  omega
theorem baOf_inj {l r : List Int} (hl : okB l) (hr : okB r) : ((baOf l).toList == (baOf r).toList) = decide (l = r) := by
  have h1 : ∀ s : ByteArray, s.toList = s.data.toList := fun s => by
    exact ByteArray.toList_eq s
  rw [h1, h1]
  have inj : ∀ l r : List Int, okB l → okB r → (baOf l).data.toList = (baOf r).data.toList → l = r := fun l r hl hr h => by
    have := congrArg (fun x : List UInt8 => x.map fun b => ([.int .u8 b.toNat] : List AV)) h
    have e1 := baOf_bytes hl
    have e2 := baOf_bytes hr
    simp only [bytesA] at e1 e2
    rw [e1, e2] at this
    have hi : Function.Injective fun b : Int => ([.int .u8 b] : List AV) := fun a b h => by simpa using h
    exact List.map_inj_right (fun a b h => hi h) |>.1 this
  by_cases h : l = r
  · subst h; simp
  · have : ¬ (baOf l).data.toList = (baOf r).data.toList := fun e => h (inj l r hl hr e)
    rw [decide_eq_false h]
    exact beq_eq_false_iff_ne.2 this

def g18 : GSpec := fun args K => match args with
  | [.slice es, .slice fs] => ∃ l r : List Int, es = bsA l ∧ fs = bsA r ∧ okB l ∧ okB r ∧ K (.ret (.bool (decide (l = r))))
  | _ => False
theorem g18_det (args : List AV) : Det (g18 args) := by
  unfold g18
  repeat' (first | exact Det.no | exact Det.at _ | refine Det.and ?_ | refine Det.ex fun _ => ?_ | refine Det.cond ?_ ?_ | split)
theorem g18_flat (args : List AV) (o : AOut) (h : g18 args (· = o)) : flatO o = true := by
  unfold g18 at h
  split at h
  · obtain ⟨_, _, _, _, _, _, rfl⟩ := h; rfl
  · exact h.elim

set_option maxRecDepth 100000 in
set_option maxHeartbeats 2000000 in
theorem f18_ok (l r : List Int) (hl : okB l) (hr : okB r) (T : Tab) (Q : AOut → Prop) (hQ : Q (.ret (.bool (decide (l = r))))) (N : Nat) :
    abody Tryz.prog T 0 N Tryz.f25 [.slice (bsA l), .slice (bsA r)] [] (fun out Hs => Q (frzO Hs out)) := by
  conv => whnf
  refine ⟨baOf l, (baOf_bytes hl).symm, ?_⟩
  conv => whnf
  refine ⟨baOf r, (baOf_bytes hr).symm, ?_⟩
  conv => whnf
  rw [← baOf_inj hl hr] at hQ
  refine Eq.mp ?_ hQ
  kernel_rfl

set_option maxRecDepth 100000 in
set_option maxHeartbeats 2000000 in
theorem f71_ok (l r : List Int) (hl : okB l) (hr : okB r) (T : Tab) (Q : AOut → Prop) (hQ : Q (.ret (.bool (decide (l = r))))) (N : Nat) :
    abody Tryz.prog T 0 N Tryz.f61 [.slice (bsA l), .slice (bsA r)] [] (fun out Hs => Q (frzO Hs out)) := by
  conv => whnf
  refine ⟨baOf l, (baOf_bytes hl).symm, ?_⟩
  conv => whnf
  refine ⟨baOf r, (baOf_bytes hr).symm, ?_⟩
  conv => whnf
  rw [← baOf_inj hl hr] at hQ
  refine Eq.mp ?_ hQ
  kernel_rfl

set_option maxRecDepth 100000 in
theorem s18 {T : Tab} (hT : TGood Tryz.prog T) : SGood Tryz.prog 25 (flatT g18) := flatT_good g18_det g18_flat fun args Q h => by
  unfold g18 at h
  split at h
  · obtain ⟨l, r, rfl, rfl, hl, hr, hQ⟩ := h
    exact body_pure hT mixedT Tryz.func25 (entersOf Tryz.func25 (by kernel_rfl) rfl) 0 (f18_ok l r hl hr T Q hQ 0)
  · exact h.elim
set_option maxRecDepth 100000 in
theorem s71 {T : Tab} (hT : TGood Tryz.prog T) : SGood Tryz.prog 61 (flatT g18) := flatT_good g18_det g18_flat fun args Q h => by
  unfold g18 at h
  split at h
  · obtain ⟨l, r, rfl, rfl, hl, hr, hQ⟩ := h
    exact body_pure hT mixedT Tryz.func61 (entersOf Tryz.func61 (by kernel_rfl) rfl) 0 (f71_ok l r hl hr T Q hQ 0)
  · exact h.elim

end Go.Abs

/-
catenaryref05.CopyReq is what it comes to.
-/
namespace Go.Abs
open Go Go.Proofs

/-- Requests, votes. -/
structure RqV where
  client : Int
  stamp : Int
  op : List Int
  sig : List Int
structure VtV where
  signer : Int
  sig : List Int
def rqC (r : RqV) : List AV := [.int .i64 r.client, .int .i64 r.stamp, .slice (bsA r.op), .slice (bsA r.sig)]
def vtC (v : VtV) : List AV := [.int .i64 v.signer, .slice (bsA v.sig)]
def okT (l : List Int) : Prop := okB l ∧ l.length ≤ 2147483647
def okR (r : RqV) : Prop := okT r.op ∧ okT r.sig

def g23 : GSpec := fun args K => match args with
  | [.agg cs] => ∃ r : RqV, cs = rqC r ∧ okR r ∧ K (.ret (.agg (rqC r)))
  | _ => False
theorem g23_det (args : List AV) : Det (g23 args) := by
  unfold g23
  repeat' (first | exact Det.no | exact Det.at _ | refine Det.and ?_ | refine Det.ex fun _ => ?_ | refine Det.cond ?_ ?_ | split)

set_option maxRecDepth 100000 in
set_option maxHeartbeats 4000000 in
theorem f23_ok (r : RqV) (hr : okR r) (T : Tab) (Q : AOut → Prop) (hQ : Q (.ret (.agg (rqC r)))) (N : Nat) :
    abody Tryz.prog T 0 N Tryz.f30 [.agg (rqC r)] [] (fun out Hs => Q (frzO Hs out)) := by
  conv => whnf
  refine ⟨fits_bs (by have := hr.1.2; omega), ?_⟩
  conv => whnf
  refine ⟨fits_bs (by have := hr.2.2; omega), ?_⟩
  conv => whnf
  refine Eq.mp ?_ hQ
  kernel_rfl

set_option maxRecDepth 100000 in
theorem s23 {T : Tab} (hT : TGood Tryz.prog T) : SGood Tryz.prog 30 (pureT g23) := pureT_good g23_det fun args Q h => by
  unfold g23 at h
  split at h
  · obtain ⟨r, rfl, hr, hQ⟩ := h
    exact body_pure hT mixedT Tryz.func30 (entersOf Tryz.func30 (by kernel_rfl) rfl) 0 (f23_ok r hr T Q hQ 0)
  · exact h.elim

end Go.Abs

/-
catenaryref05.SameReq is what it comes to.
-/
namespace Go.Abs
open Go Go.Proofs

def rqEq (a b : RqV) : Bool := (a.client == b.client) && (a.stamp == b.stamp) && decide (a.op = b.op) && decide (a.sig = b.sig)
def g25 : GSpec := fun args K => match args with
  | [.agg cs, .agg ds] => ∃ a b : RqV, cs = rqC a ∧ ds = rqC b ∧ okR a ∧ okR b ∧ K (.ret (.bool (rqEq a b)))
  | _ => False
theorem g25_det (args : List AV) : Det (g25 args) := by
  unfold g25
  repeat' (first | exact Det.no | exact Det.at _ | refine Det.and ?_ | refine Det.ex fun _ => ?_ | refine Det.cond ?_ ?_ | split)
theorem g25_flat (args : List AV) (o : AOut) (h : g25 args (· = o)) : flatO o = true := by
  unfold g25 at h
  split at h
  · obtain ⟨_, _, _, _, _, _, rfl⟩ := h; rfl
  · exact h.elim

set_option maxRecDepth 100000 in
set_option maxHeartbeats 4000000 in
theorem f25_ok (a b : RqV) (ha : okR a) (hb : okR b) (T : Tab) (Q : AOut → Prop) (hQ : Q (.ret (.bool (rqEq a b)))) (N : Nat) :
    abody Tryz.prog (ext T 25 (flatT g18)) 0 N Tryz.f21 [.agg (rqC a), .agg (rqC b)] [] (fun out Hs => Q (frzO Hs out)) := by
  conv => whnf
  split
  rotate_left
  · rename_i h1; have h1 : (a.client == b.client) = false := h1
    rw [show rqEq a b = false by simp [rqEq, h1]] at hQ
    refine Eq.mp ?_ hQ
    kernel_rfl
  rename_i h1; have h1 : (a.client == b.client) = true := h1
  conv => whnf
  split
  rotate_left
  · rename_i h2; have h2 : (a.stamp == b.stamp) = false := h2
    rw [show rqEq a b = false by simp [rqEq, h2]] at hQ
    refine Eq.mp ?_ hQ
    kernel_rfl
  rename_i h2; have h2 : (a.stamp == b.stamp) = true := h2
  conv => whnf
  refine ⟨a.op, b.op, rfl, rfl, ha.1.1, hb.1.1, ?_⟩
  conv => whnf
  split
  rotate_left
  · rename_i h3; have h3 : decide (a.op = b.op) = false := h3
    rw [show rqEq a b = false by simp [rqEq, h3]] at hQ
    refine Eq.mp ?_ hQ
    kernel_rfl
  rename_i h3; have h3 : decide (a.op = b.op) = true := h3
  conv => whnf
  refine ⟨a.sig, b.sig, rfl, rfl, ha.2.1, hb.2.1, ?_⟩
  conv => whnf
  rw [show rqEq a b = decide (a.sig = b.sig) by simp only [rqEq, h1, h2, h3, Bool.true_and]] at hQ
  refine Eq.mp ?_ hQ
  kernel_rfl

set_option maxRecDepth 100000 in
theorem s25 {T : Tab} (hT : TGood Tryz.prog T) : SGood Tryz.prog 21 (flatT g25) := flatT_good g25_det g25_flat fun args Q h => by
  unfold g25 at h
  split at h
  · obtain ⟨a, b, rfl, rfl, ha, hb, hQ⟩ := h
    exact body_pure (ext_good hT (s18 hT)) mixedT Tryz.func21 (entersOf Tryz.func21 (by kernel_rfl) rfl) 0 (f25_ok a b ha hb T Q hQ 0)
  · exact h.elim

end Go.Abs

/-
catenaryref05.SameVotes is what it comes to.
-/
namespace Go.Abs
open Go Go.Proofs

def vtA (l : List VtV) : List (List AV) := l.map vtC
def vtEq (a b : VtV) : Bool := (a.signer == b.signer) && decide (a.sig = b.sig)
def vtsEq : List VtV → List VtV → Bool
  | [], [] => true
  | x :: r, y :: s => vtEq x y && vtsEq r s
  | _, _ => false
def okVs (l : List VtV) : Prop := l.length ≤ 1099511627776 ∧ ∀ v ∈ l, okT v.sig
theorem vtsEq_len : ∀ (a b : List VtV), vtsEq a b = true → a.length = b.length
  | [], [], _ => rfl
  | x :: r, y :: s, h => by
    simp only [vtsEq, Bool.and_eq_true] at h
    simp [vtsEq_len r s h.2]
  | [], _ :: _, h => by simp [vtsEq] at h
  | _ :: _, [], h => by simp [vtsEq] at h

def g56 : GSpec := fun args K => match args with
  | [.slice es, .slice fs] => ∃ a b : List VtV, es = vtA a ∧ fs = vtA b ∧ okVs a ∧ okVs b ∧ K (.ret (.bool (vtsEq a b)))
  | _ => False
theorem g56_det (args : List AV) : Det (g56 args) := by
  unfold g56
  repeat' (first | exact Det.no | exact Det.at _ | refine Det.and ?_ | refine Det.ex fun _ => ?_ | refine Det.cond ?_ ?_ | split)
theorem g56_flat (args : List AV) (o : AOut) (h : g56 args (· = o)) : flatO o = true := by
  unfold g56 at h
  split at h
  · obtain ⟨_, _, _, _, _, _, rfl⟩ := h; rfl
  · exact h.elim

set_option maxRecDepth 100000 in
set_option maxHeartbeats 4000000 in
theorem f56_ok (a b : List VtV) (ha : okVs a) (hb : okVs b) (T : Tab) (Q : AOut → Prop) (hQ : Q (.ret (.bool (vtsEq a b)))) (N : Nat) (hN : a.length < N) :
    abody Tryz.prog (ext T 25 (flatT g18)) 0 N Tryz.f44 [.slice (vtA a), .slice (vtA b)] [] (fun out Hs => Q (frzO Hs out)) := by
  have la : (vtA a).length = a.length := by simp [vtA]
  have lb : (vtA b).length = b.length := by simp [vtA]
  have hal := ha.1
  have hbl := hb.1
  conv => whnf
  split
  · rename_i h1; have h1 : (((vtA a).length : Int) != ((vtA b).length : Int)) = true := h1
    rw [la, lb, bne_iff_ne] at h1
    rw [show vtsEq a b = false by
      cases h : vtsEq a b with
      | false => rfl
      | true => exact absurd (by rw [vtsEq_len a b h]) h1] at hQ
    refine Eq.mp ?_ hQ
    kernel_rfl
  rename_i h1; have h1 : (((vtA a).length : Int) != ((vtA b).length : Int)) = false := h1
  rw [la, lb, bne_eq_false_iff_eq] at h1
  conv => whnf
  refine aloop_at ?_ ?_ (aloop_inv (σ := Nat) (fun i => ((sp 0 42 [(0, .slice (vtA a)), (1, .slice (vtA b)), (12, .int .i64 ((vtA a).length : Nat)), (13, .int .i64 (i : Nat))]), []))
    (fun i => i ≤ a.length ∧ vtsEq a b = vtsEq (a.drop i) (b.drop i)) (fun i => a.length - i) ?_ N 0 ⟨Nat.zero_le _, rfl⟩ (by omega))
  · kernel_rfl
  · kernel_rfl
  rintro i ⟨i1, i2⟩ R hR
  conv => whnf
  split
  rotate_left
  · rename_i h2; have h2 : ¬ (i : Int) < (vtA a).length := of_decide_eq_false h2
    rw [la] at h2
    rw [i2, List.drop_of_length_le (by omega), List.drop_of_length_le (by omega)] at hQ
    refine Eq.mp ?_ hQ
    kernel_rfl
  rename_i h2; have h2 : (i : Int) < (vtA a).length := of_decide_eq_true h2
  rw [la] at h2
  obtain ⟨x, hx⟩ : ∃ x, a[i]? = some x := ⟨a[i]'(by omega), List.getElem?_eq_getElem (by omega)⟩
  obtain ⟨y, hy⟩ : ∃ y, b[i]? = some y := ⟨b[i]'(by omega), List.getElem?_eq_getElem (by omega)⟩
  have hxa : (vtA a)[i]? = some (vtC x) := by simp [vtA, hx]
  have hyb : (vtA b)[i]? = some (vtC y) := by simp [vtA, hy]
  have hstep : vtsEq a b = (vtEq x y && vtsEq (a.drop (i + 1)) (b.drop (i + 1))) := by
    rw [i2, List.drop_eq_getElem_cons (show i < a.length by omega), List.drop_eq_getElem_cons (show i < b.length by omega)]
    have e1 : a[i]'(by omega) = x := by have := List.getElem?_eq_getElem (l := a) (i := i) (by omega); rw [hx] at this; exact (Option.some.inj this).symm
    have e2 : b[i]'(by omega) = y := by have := List.getElem?_eq_getElem (l := b) (i := i) (by omega); rw [hy] at this; exact (Option.some.inj this).symm
    rw [e1, e2]
    rfl
  have hi1 : IntKind.i64.wrap ((i : Int) + 1) = ((i + 1 : Nat) : Int) := by rw [IntWalk.i64_in _ (by omega)]; omega
  conv => whnf
  refine ⟨[], ?_⟩
  refine ⟨by omega, by rw [la]; omega, _, hxa, by kernel_rfl, ?_⟩
  conv => whnf
  refine ⟨by omega, by rw [lb]; omega, _, hyb, by kernel_rfl, ?_⟩
  conv => whnf
  split
  · rename_i h3; have h3 : (x.signer != y.signer) = true := h3
    rw [h3]
    conv => whnf
    have h3' : vtEq x y = false := by
      have h4 : ¬ x.signer = y.signer := bne_iff_ne.1 h3
      simp [vtEq, h4]
    rw [hstep, h3', Bool.false_and] at hQ
    refine Eq.mp ?_ hQ
    kernel_rfl
  rename_i h3; have h3 : (x.signer != y.signer) = false := h3
  have h3e : x.signer = y.signer := bne_eq_false_iff_eq.1 h3
  rw [h3]
  conv => whnf
  refine ⟨by omega, by rw [la]; omega, _, hxa, by kernel_rfl, ?_⟩
  conv => whnf
  refine ⟨by omega, by rw [lb]; omega, _, hyb, by kernel_rfl, ?_⟩
  conv => whnf
  refine ⟨x.sig, y.sig, rfl, rfl, (ha.2 x (List.mem_of_getElem? hx)).1, (hb.2 y (List.mem_of_getElem? hy)).1, ?_⟩
  conv => whnf
  refine ⟨rfl, ?_⟩
  conv => whnf
  split
  · rename_i h5; have h5 : (!decide (x.sig = y.sig)) = true := h5
    have h6 : vtEq x y = false := by
      have : ¬ x.sig = y.sig := by simpa using h5
      simp [vtEq, this]
    rw [hstep, h6, Bool.false_and] at hQ
    refine Eq.mp ?_ hQ
    kernel_rfl
  rename_i h5; have h5 : (!decide (x.sig = y.sig)) = false := h5
  have h6 : vtEq x y = true := by
    have : x.sig = y.sig := by simpa using h5
    simp [vtEq, this, h3e]
  conv => whnf
  refine R_at ?_ ?_ (hR (i + 1) ⟨by omega, by rw [hstep, h6, Bool.true_and]⟩ (by omega))
  · rw [← hi1]; kernel_rfl
  · kernel_rfl

set_option maxRecDepth 100000 in
theorem s56 {T : Tab} (hT : TGood Tryz.prog T) : SGood Tryz.prog 44 (flatT g56) := flatT_good g56_det g56_flat fun args Q h => by
  unfold g56 at h
  split at h
  · obtain ⟨a, b, rfl, rfl, ha, hb, hQ⟩ := h
    exact body_pure (ext_good hT (s18 hT)) mixedT Tryz.func44 (entersOf Tryz.func44 (by kernel_rfl) rfl) _ (f56_ok a b ha hb T Q hQ _ (Nat.lt_succ_self _))
  · exact h.elim

end Go.Abs

/-
The library's bodies of bytes.Buffer stand in this program.
-/
namespace Go.Proofs
open Go.Shelf
def Tryz.bufW_ren : Go.Shelf.Ren := ⟨fun | 180 => 84 | 251 => 137 | 252 => 138 | 181 => 52 | 184 => 163 | 290 => 164 | 324 => 173 | n => n, fun | 130 => 130 | 37 => 24 | 3 => 3 | 75 => 118 | 0 => 0 | 93 => 76 | 91 => 74 | 131 => 173 | 4 => 4 | 20 => 20 | 5 => 5 | 80 => 227 | 9 => 9 | n => n, fun | 14 => 0 | n => n⟩
theorem Tryz.bufW : Go.Proofs.LaysM.n180 Tryz.prog Tryz.bufW_ren := {
  mixed := by kernel_rfl
  f180 := Tryz.func84.trans (congrArg some (by kernel_rfl))
  f181 := Tryz.func52.trans (congrArg some (by kernel_rfl))
  f184 := Tryz.func163.trans (congrArg some (by kernel_rfl))
  f251 := Tryz.func137.trans (congrArg some (by kernel_rfl))
  f252 := Tryz.func138.trans (congrArg some (by kernel_rfl))
  f290 := Tryz.func164.trans (congrArg some (by kernel_rfl))
  f324 := Tryz.func173.trans (congrArg some (by kernel_rfl))
  t0 := Tryz.underlying0
  a0 := Tryz.isAgg0
  z0 := Tryz.sizeOf0
  v0 := Tryz.zeroValue0
  t3 := Tryz.underlying3
  a3 := Tryz.isAgg3
  z3 := Tryz.sizeOf3
  v3 := Tryz.zeroValue3
  t4 := Tryz.underlying4
  a4 := Tryz.isAgg4
  z4 := Tryz.sizeOf4
  v4 := Tryz.zeroValue4
  t20 := Tryz.underlying20
  a20 := Tryz.isAgg20
  z20 := Tryz.sizeOf20
  v20 := Tryz.zeroValue20
  t37 := Tryz.underlying24
  a37 := Tryz.isAgg24
  z37 := Tryz.sizeOf24
  v37 := Tryz.zeroValue24
  t75 := Tryz.underlying118
  a75 := Tryz.isAgg118
  z75 := Tryz.sizeOf118
  v75 := Tryz.zeroValue118
  t91 := Tryz.underlying74
  a91 := Tryz.isAgg74
  z91 := Tryz.sizeOf74
  v91 := Tryz.zeroValue74
  t93 := Tryz.underlying76
  a93 := Tryz.isAgg76
  z93 := Tryz.sizeOf76
  v93 := Tryz.zeroValue76
  t130 := Tryz.underlying130
  a130 := Tryz.isAgg130
  z130 := Tryz.sizeOf130
  v130 := Tryz.zeroValue130
  t131 := Tryz.underlying173
  a131 := Tryz.isAgg173
  z131 := Tryz.sizeOf173
  v131 := Tryz.zeroValue173
  g14 := by kernel_rfl
  t5 := Tryz.underlying5
  a5 := Tryz.isAgg5
  z5 := Tryz.sizeOf5
  v5 := Tryz.zeroValue5
  t9 := Tryz.underlying9
  a9 := Tryz.isAgg9
  z9 := Tryz.sizeOf9
  v9 := Tryz.zeroValue9
  t80 := Tryz.underlying227
  a80 := Tryz.isAgg227
  z80 := Tryz.sizeOf227
  v80 := Tryz.zeroValue227
  i0 := by kernel_rfl
  i3 := by kernel_rfl
  i4 := by kernel_rfl
  i5 := by kernel_rfl
  i9 := by kernel_rfl
  i20 := by kernel_rfl
  i37 := by kernel_rfl
  i75 := by kernel_rfl
  i80 := by kernel_rfl
  i91 := by kernel_rfl
  i93 := by kernel_rfl
  i130 := by kernel_rfl
  i131 := by kernel_rfl
  m14 := by kernel_rfl }
end Go.Proofs

