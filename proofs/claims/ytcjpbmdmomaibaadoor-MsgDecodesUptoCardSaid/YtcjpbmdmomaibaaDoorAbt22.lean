/-
How votes, preps, reports and messages read.
-/
import Derived.Test.YtcjpbmdmomaibaaDoorAbt15
namespace Go.Abs
open Go Go.Proofs

def okBr (b : BalV) : Prop := okI64 b.view ∧ okI64 b.turn
def okVr (v : VtV) : Prop := okT v.sig ∧ okI64 v.signer
structure okPrr (p : PrV) : Prop where
  pr : okPr p
  slot : okI64 p.slot
  bal : okBr p.bal
  req : okRr p.req
  cert : ∀ v ∈ p.cert, okVr v
structure okRpr (r : RpV) : Prop where
  rp : okRp r
  bal : okBr r.bal
  replica : okI64 r.replica
  low : okI64 r.low
  stable : ∀ v ∈ r.stable, okVr v
  preps : ∀ p ∈ r.preps, okPrr p
structure okMr (m : MsV) : Prop where
  ms : OkM m
  kind : okI64 m.kind
  bal : okBr m.bal
  slot : okI64 m.slot
  from_ : okI64 m.from_
  to : okI64 m.to
  index : okI64 m.index
  count : okI64 m.count
  req : okRr m.req
  other : okRr m.other
  cert : ∀ v ∈ m.cert, okVr v
  votes : ∀ v ∈ m.votes, okVr v
  order : ∀ n ∈ m.order, okI64 n
  picks : ∀ r ∈ m.picks, okRr r
  reports : ∀ r ∈ m.reports, okRpr r
theorem okT_r {l : List Int} {b : Nat} (h : okB l) (h1 : l.length ≤ b) (h2 : b ≤ 1048576) : okT l := ⟨h, by omega⟩
theorem okVL_r {l : List VtV} {b : Nat} (h : ∀ v ∈ l, okVr v) (h1 : l.length + 1 ≤ b) (h2 : b ≤ 1048576) : okVL l := ⟨by omega, fun v hv => (h v hv).1⟩

set_option maxRecDepth 100000 in
theorem reads25 : Reads Tryd.prog 25 fun b xs => 1 ≤ b ∧ ∃ r : BalV, xs = balC r ∧ okBr r ∧ (fun _ => 0) r ≤ 64 * b := by
  refine (reads_struct Tryd.underlying25 (by kernel_rfl) (.cons reads3 (.cons reads3 .nil))).imp fun b xs hb h => ?_
  obtain ⟨b0, hb0, b1, c1, x1, y1, h1, rfl, ⟨p1, n1, rfl, q1⟩, b2, c2, x2, y2, h2, rfl, ⟨p2, n2, rfl, q2⟩, e⟩ := h
  have e : y2 = [] := e
  subst e
  refine ⟨by omega, ⟨n1, n2⟩, rfl, ⟨q1, q2⟩, ?_⟩
  exact Nat.zero_le _

set_option maxRecDepth 100000 in
theorem reads106 : Reads Tryd.prog 106 fun b xs => 1 ≤ b ∧ ∃ r : VtV, xs = vtC r ∧ okVr r ∧ cV r ≤ 64 * b := by
  refine (reads_struct Tryd.underlying106 (by kernel_rfl) (.cons reads3 (.cons reads26 .nil))).imp fun b xs hb h => ?_
  obtain ⟨b0, hb0, b1, c1, x1, y1, h1, rfl, ⟨p1, n1, rfl, q1⟩, b2, c2, x2, y2, h2, rfl, ⟨p2, n2, rfl, q2, r2⟩, e⟩ := h
  have e : y2 = [] := e
  subst e
  refine ⟨by omega, ⟨n1, n2⟩, rfl, ⟨okT_r q2 r2 (by omega), q1⟩, ?_⟩
  simp only [cV, cT]
  omega

theorem reads29 : Reads Tryd.prog 29 fun b xs => 1 ≤ b ∧ ∃ l : List VtV, xs = [.slice (vtCL l)] ∧ (∀ v ∈ l, okVr v) ∧ sumN cV l + 64 ≤ 64 * b ∧ l.length + 1 ≤ b :=
  reads_list vtC okVr cV 64 Tryd.underlying29 (of_decide_eq_true (by kernel_rfl)) reads106

set_option maxRecDepth 100000 in
theorem reads132 : Reads Tryd.prog 132 fun b xs => 1 ≤ b ∧ ∃ r : PrV, xs = prC r ∧ okPrr r ∧ cPr r ≤ 64 * b := by
  refine (reads_struct Tryd.underlying132 (by kernel_rfl) (.cons reads3 (.cons reads25 (.cons reads28 (.cons reads29 .nil))))).imp fun b xs hb h => ?_
  obtain ⟨b0, hb0, b1, c1, x1, y1, h1, rfl, ⟨p1, n1, rfl, q1⟩, b2, c2, x2, y2, h2, rfl, ⟨p2, n2, rfl, q2, r2⟩, b3, c3, x3, y3, h3, rfl, ⟨p3, n3, rfl, q3, r3⟩, b4, c4, x4, y4, h4, rfl, ⟨p4, n4, rfl, q4, r4, s4⟩, e⟩ := h
  have e : y4 = [] := e
  subst e
  refine ⟨by omega, ⟨n1, n2, n3, n4⟩, rfl, ⟨⟨q3.1, okVL_r q4 s4 (by omega)⟩, q1, q2, q3, q4⟩, ?_⟩
  simp only [cPr, cVs]
  omega

theorem reads68 : Reads Tryd.prog 68 fun b xs => 1 ≤ b ∧ ∃ l : List PrV, xs = [.slice (prCL l)] ∧ (∀ v ∈ l, okPrr v) ∧ sumN cPr l + 64 ≤ 64 * b ∧ l.length + 1 ≤ b :=
  reads_list prC okPrr cPr 64 Tryd.underlying68 (of_decide_eq_true (by kernel_rfl)) reads132

set_option maxRecDepth 100000 in
theorem reads70 : Reads Tryd.prog 70 fun b xs => 1 ≤ b ∧ ∃ r : RpV, xs = rpC r ∧ okRpr r ∧ cRp r ≤ 64 * b := by
  refine (reads_struct Tryd.underlying70 (by kernel_rfl) (.cons reads25 (.cons reads3 (.cons reads3 (.cons reads26 (.cons reads29 (.cons reads68 (.cons reads26 .nil)))))))).imp fun b xs hb h => ?_
  obtain ⟨b0, hb0, b1, c1, x1, y1, h1, rfl, ⟨p1, n1, rfl, q1, r1⟩, b2, c2, x2, y2, h2, rfl, ⟨p2, n2, rfl, q2⟩, b3, c3, x3, y3, h3, rfl, ⟨p3, n3, rfl, q3⟩, b4, c4, x4, y4, h4, rfl, ⟨p4, n4, rfl, q4, r4⟩, b5, c5, x5, y5, h5, rfl, ⟨p5, n5, rfl, q5, r5, s5⟩, b6, c6, x6, y6, h6, rfl, ⟨p6, n6, rfl, q6, r6, s6⟩, b7, c7, x7, y7, h7, rfl, ⟨p7, n7, rfl, q7, r7⟩, e⟩ := h
  have e : y7 = [] := e
  subst e
  refine ⟨by omega, ⟨n1, n2, n3, n4, n5, n6, n7⟩, rfl, ⟨⟨okT_r q4 r4 (by omega), okVL_r q5 s5 (by omega), ⟨(by show n6.length ≤ _; omega), fun p hp => (q6 p hp).pr⟩, okT_r q7 r7 (by omega)⟩, q1, q2, q3, q5, q6⟩, ?_⟩
  simp only [cRp, cVs, cT]
  omega

theorem reads31 : Reads Tryd.prog 31 fun b xs => 1 ≤ b ∧ ∃ l : List RpV, xs = [.slice (rpCL l)] ∧ (∀ v ∈ l, okRpr v) ∧ sumN cRp l + 64 ≤ 64 * b ∧ l.length + 1 ≤ b :=
  reads_list rpC okRpr cRp 64 Tryd.underlying31 (of_decide_eq_true (by kernel_rfl)) reads70
theorem reads30 : Reads Tryd.prog 30 fun b xs => 1 ≤ b ∧ ∃ l : List RqV, xs = [.slice (rqCL l)] ∧ (∀ v ∈ l, okRr v) ∧ sumN cR l + 64 ≤ 64 * b ∧ l.length + 1 ≤ b :=
  reads_list rqC okRr cR 64 Tryd.underlying30 (of_decide_eq_true (by kernel_rfl)) reads28
theorem reads22 : Reads Tryd.prog 22 fun b xs => 1 ≤ b ∧ ∃ l : List Int, xs = [.slice (inCL l)] ∧ (∀ v ∈ l, okI64 v) ∧ sumN (fun _ => 6) l + 64 ≤ 64 * b ∧ l.length + 1 ≤ b :=
  reads_list inC okI64 (fun _ => 6) 64 Tryd.underlying22 (of_decide_eq_true (by kernel_rfl)) (reads3.imp fun b xs _ ⟨h1, n, h2, h3⟩ => ⟨h1, n, h2, h3, by omega⟩)

set_option maxRecDepth 100000 in
theorem reads33 : Reads Tryd.prog 33 fun b xs => 1 ≤ b ∧ ∃ r : MsV, xs = msC r ∧ okMr r ∧ cM r ≤ 64 * b := by
  refine (reads_struct Tryd.underlying33 (by kernel_rfl) (.cons reads3 (.cons reads25 (.cons reads3 (.cons reads3 (.cons reads3 (.cons reads3 (.cons reads3 (.cons reads28 (.cons reads28 (.cons reads26 (.cons reads26 (.cons reads29 (.cons reads29 (.cons reads22 (.cons reads30 (.cons reads31 .nil))))))))))))))))).imp fun b xs hb h => ?_
  obtain ⟨b0, hb0, b1, c1, x1, y1, h1, rfl, ⟨p1, n1, rfl, q1⟩, b2, c2, x2, y2, h2, rfl, ⟨p2, n2, rfl, q2, r2⟩, b3, c3, x3, y3, h3, rfl, ⟨p3, n3, rfl, q3⟩, b4, c4, x4, y4, h4, rfl, ⟨p4, n4, rfl, q4⟩, b5, c5, x5, y5, h5, rfl, ⟨p5, n5, rfl, q5⟩, b6, c6, x6, y6, h6, rfl, ⟨p6, n6, rfl, q6⟩, b7, c7, x7, y7, h7, rfl, ⟨p7, n7, rfl, q7⟩, b8, c8, x8, y8, h8, rfl, ⟨p8, n8, rfl, q8, r8⟩, b9, c9, x9, y9, h9, rfl, ⟨p9, n9, rfl, q9, r9⟩, b10, c10, x10, y10, h10, rfl, ⟨p10, n10, rfl, q10, r10⟩, b11, c11, x11, y11, h11, rfl, ⟨p11, n11, rfl, q11, r11⟩, b12, c12, x12, y12, h12, rfl, ⟨p12, n12, rfl, q12, r12, s12⟩, b13, c13, x13, y13, h13, rfl, ⟨p13, n13, rfl, q13, r13, s13⟩, b14, c14, x14, y14, h14, rfl, ⟨p14, n14, rfl, q14, r14, s14⟩, b15, c15, x15, y15, h15, rfl, ⟨p15, n15, rfl, q15, r15, s15⟩, b16, c16, x16, y16, h16, rfl, ⟨p16, n16, rfl, q16, r16, s16⟩, e⟩ := h
  have e : y16 = [] := e
  subst e
  refine ⟨by omega, ⟨n1, n2, n3, n4, n5, n6, n7, n8, n9, n10, n11, n12, n13, n14, n15, n16⟩, rfl, ⟨⟨q8.1, q9.1, okT_r q10 r10 (by omega), okT_r q11 r11 (by omega), okVL_r q12 s12 (by omega), okVL_r q13 s13 (by omega), (by show n14.length ≤ _; omega), ⟨(by show n15.length ≤ _; omega), fun v hv => (q15 v hv).1⟩, ⟨(by show n16.length ≤ _; omega), fun v hv => (q16 v hv).rp⟩⟩, q1, q2, q3, q4, q5, q6, q7, q8, q9, q12, q13, q14, q15, q16⟩, ?_⟩
  simp only [cM, cVs, cT]
  omega

set_option maxRecDepth 100000 in
open Go.WideShapes Go.ChangeShapes in
/-- Bytes that are handed in. -/
theorem arg_bytes {H : Type} {enc : TypeId × Value → H} {W : World} {r : Reach} {b0 : Nat} {v : Value} {d : DataW H} {p : List MemPlace} (hv : Value.okWide Tryd.prog W r b0 26 v)
    (h : DataW.Trod enc Tryd.prog W 0 (fun _ => true) true 26 v d p) (hb : Go.Proofs.YtcjpbmdmomaibaaDoor.Rows.uptoBulk d ≤ 1048576) : ∃ l : List Int, RV W noM 0 G0 v (.slice (bsA l)) ∧ okB l ∧ l.length ≤ Go.Proofs.YtcjpbmdmomaibaaDoor.Rows.uptoBulk d := by
  obtain ⟨a, len, cap, rfl⟩ := okWide_slice Tryd.underlying26 hv
  obtain ⟨x, ⟨l, rfl, h1, h2⟩, h3⟩ := arg_one (φ := fun b x => ∃ l : List Int, x = .slice (bsA l) ∧ okB l ∧ l.length ≤ b) (reads26.imp fun b xs _ ⟨_, l, h1, h2, h3⟩ => ⟨_, h1, l, rfl, h2, h3⟩) rfl h hb
  exact ⟨l, h3, h1, h2⟩
set_option maxRecDepth 100000 in
open Go.WideShapes Go.ChangeShapes in
/-- A number that is handed in. -/
theorem arg_int {H : Type} {enc : TypeId × Value → H} {W : World} {r : Reach} {b0 : Nat} {v : Value} {d : DataW H} {p : List MemPlace} (hv : Value.okWide Tryd.prog W r b0 3 v)
    (h : DataW.Trod enc Tryd.prog W 0 (fun _ => true) true 3 v d p) : ∃ n : Int, RV W noM 0 G0 v (.int .i64 n) ∧ okI64 n := by
  obtain ⟨n, rfl, _, _, hw⟩ := open_int Tryd.underlying3 hv h
  exact ⟨n, .int .., wf_i64 hw⟩

end Go.Abs

