/- taken of the laws on layer 11: an item is read back. -/
import Derived.Test.YtjbdfmniiiaakaaItp
import Derived.Test.YtjbdfmniiiaakaaSam
namespace Go.Proofs.Ytjbdfmniiiaakaa
set_option linter.unusedVariables false
open Go.RowKit

/-- the item's block is kept. -/
structure TK (w : World) (x : It) (W : World) : Prop where
  bw : Below w.heap.size w W
  blk : Blk W w.heap.size 45 (icells x).toArray
section
variable {w W W1 : World} {x : It}
theorem TK.new (w : World) (x : It) : TK w x (w.alloc (.cells (icells x).toArray 45)) := ⟨(Below.refl _ _).alloc (Nat.le_refl _) _, Blk.new _ _ _⟩
theorem TK.next (h : TK w x W) (hb : Below W.heap.size W W1) : TK w x W1 := ⟨chain h.bw hb, h.blk.below hb h.blk.lt⟩
theorem TK.cells (h : TK w x W) : W.cell? ⟨w.heap.size, 0, none⟩ = some (.int .u64 x.u) ∧ W.cell? ⟨w.heap.size, 1, none⟩ = some (.int .i64 x.n) ∧ W.cell? ⟨w.heap.size, 2, none⟩ = some (.slice x.sA x.s.length x.sc) ∧
    W.cell? ⟨w.heap.size, 3, none⟩ = some (.bool x.v) ∧ W.cell? ⟨w.heap.size, 4, none⟩ = some (.slice x.lA x.L.length x.lc) := ⟨h.blk.cell 0, h.blk.cell 1, h.blk.cell 2, h.blk.cell 3, h.blk.cell 4⟩
end

set_option maxRecDepth 100000 in
set_option maxHeartbeats 3200000 in
theorem taken_any (A : Option Addr) (n c : Nat) (b r : List UInt8) (a : Nat) (x : It) (w : World) (hn : n = b.length) (hl : b.length ≤ 1000000) (hcap : n ≤ c) (ha : a ≤ b.length) (hd : b.drop a = encT x ++ r)
    (hA : Lie w w.heap.size A (bytes b)) (hx : GoodI w w.heap.size x) (hs : x.s.length ≤ 200) (hL : x.L.length ≤ 50) :
    Calls Try.prog 32 #[.slice A n c, .int .i64 a, iv x] w fun e w' => e = .returned (.tuple #[.int .i64 (a + (encT x).length : Nat), .bool true]) ∧ Below w.heap.size w w' := by
  subst hn
  obtain ⟨x1, x2, x3, x4, x5, x6, x7⟩ := hx
  obtain ⟨a1, a2, a3, a4, a5, ea, q1, q2, q3, q4, q5⟩ := encT_parts x b r a ha hd
  have q1 := q1 x1
  have q2 := q2 x2
  have q3 := q3 (by omega)
  have q5 := q5 x6 (by omega)
  obtain ⟨-, -, -, -, -, e6, -⟩ := ea.out
  rw [← e6]
  have T0 := hide (TK.new w x)
  have H1 := fun (W : World) (h : Below w.heap.size w W) => uint_any A _ c b a W rfl hl (hA.on h)
  rw [q1] at H1
  have H2 := fun (W : World) (h : Below w.heap.size w W) => int_any A _ c b a1 W rfl hl (hA.on h)
  rw [q2] at H2
  have H3 := hide (fun (W : World) (h : Below w.heap.size w W) => bytes_any A _ c b a2 x.s.length W rfl hl hcap ⟨by omega, by omega⟩ (hA.on h))
  have H4 := fun (W : World) (h : Below w.heap.size w W) => bool_any A _ c b a3 W rfl hl (hA.on h)
  rw [q4] at H4
  have H5 := hide (fun (W : World) (h : Below w.heap.size w W) => ints_any A _ c b a4 x.L.length W rfl hl ⟨by omega, by omega⟩ (hA.on h))
  have Q3 := hide q3
  have Q5 := hide q5
  have X4 := hide x4
  have X7 := hide x7
  have H1 := hide H1
  have H2 := hide H2
  have H4 := hide H4
  clear q1 q2 q3 q4 q5 x1 x2 x4 x6 x7 e6 ea hA hd
  obtain ⟨xu, xn, sA, sc, s, v, lA, lc, L⟩ := x
  simp only at *
  unfold iv
  simp only [icells] at T0
  go_enter Try.func32, Try.ntmps32
  go_upto_region 1 with fail
  generalize w.alloc (.cells #[.int .u64 xu, .int .i64 xn, .slice sA s.length sc, .bool v, .slice lA L.length lc] 45) = wa at *
  obtain ⟨c0, c1, c2, c3, c4⟩ := T0.out.cells
  simp only at c0 c1 c2 c3 c4
  go_wp2_with fail
  refine Calls.mono (H1.out _ T0.out.bw) ?_
  rintro e w1 ⟨rfl, rfl⟩
  go_wp2_with fail
  refine Calls.mono (H2.out _ T0.out.bw) ?_
  rintro e w1 ⟨rfl, rfl⟩
  clear H1 H2
  go_wp2_with fail
  refine Calls.mono (H3.out _ T0.out.bw) ?_
  intro e w1 h
  obtain ⟨A1, d1, rfl, L1, b1⟩ := gotb_lit h Q3.out rfl
  have T1 := hide (T0.out.next b1)
  have k1 := str_of (c := d1) L1 rfl
  have k2 := str_of (c := sc) (X4.out.on T1.out.bw) rfl
  clear h b1 L1 T0 c0 c1 c2 c3 c4 H3
  obtain ⟨c0, c1, c2, c3, c4⟩ := T1.out.cells
  simp only at c0 c1 c2 c3 c4
  go_wp2_with fail
  refine Calls.mono (H4.out _ T1.out.bw) ?_
  rintro e w2 ⟨rfl, rfl⟩
  clear k1 k2 H4
  go_wp2_with fail
  refine Calls.mono (H5.out _ T1.out.bw) ?_
  intro e w2 h
  obtain ⟨A2, d2, rfl, L2, b2⟩ := gotl_lit h Q5.out rfl
  have T2 := hide (T1.out.next b2)
  have L2 := hide L2
  have LX := hide (X7.out.on T2.out.bw)
  clear h b2 T1 c0 c1 c2 c3 c4 H5
  obtain ⟨-, -, -, -, c4⟩ := T2.out.cells
  simp only at c4
  go_wp2_with fail
  refine Calls.mono (same11_any A2 lA _ _ d2 lc L L _ rfl rfl (by omega) L2.out LX.out) ?_
  rintro e w3 ⟨rfl, b3⟩
  rw [beq_self_eq_true]
  have B3 := hide (chain T2.out.bw b3)
  clear b3 T2 c4 L2 LX
  go_wp2_with fail
  go_ret2
  exact ⟨rfl, B3.out⟩
end Go.Proofs.Ytjbdfmniiiaakaa
