/- put of the laws on layer 11: the bytes of an item behind a row of the call's own. -/
import Derived.Test.YtjbdfmniiiaakaaItm
import Derived.Deep.Cut
import Derived.Deep.DeepCutAuto
import Derived.Deep.Onto
import Derived.IntWalk
namespace Go.Proofs.Ytjbdfmniiiaakaa
set_option linter.unusedVariables false
open Go.RowKit

/-- where put stands: the row, and the block of the item. -/
structure PK (w : World) (B : Nat) (x : It) (M : List UInt8) (A : Option Addr) (n c : Nat) (W : World) : Prop where
  bw : Below B w W
  blk : Blk W w.heap.size 45 (icells x).toArray
  own : W.ownsRow B 5 1 (.slice A n c) n (bytes M)
  ne : (Value.slice A n c).ownBlock ≠ some w.heap.size
section
variable {w W W1 : World} {B : Nat} {x : It} {M : List UInt8} {A : Option Addr} {n c : Nat}
theorem PK.size (h : PK w B x M A n c W) : w.heap.size < W.heap.size := h.blk.lt
theorem PK.new (hB : B ≤ w.heap.size) (h : w.ownsRow B 5 1 (.slice A n c) n (bytes M)) : PK w B x M A n c (w.alloc (.cells (icells x).toArray 45)) :=
  ⟨(Below.refl _ _).alloc hB _, Blk.new _ _ _, h.alloc _, fun e => by have := (h.lt _ e).2; omega⟩
theorem PK.next (h : PK w B x M A n c W) (hB : B ≤ w.heap.size) (hb : Below W.heap.size W W1) : PK w B x M A n c W1 :=
  ⟨h.bw.trans (hb.mono (Nat.le_trans hB h.bw.size)), h.blk.below hb h.size, own_below h.own hb, h.ne⟩
theorem PK.app {N : List UInt8} {A' : Option Addr} {n' c' : Nat} (h : PK w B x M A n c W) (ha : Apped W W1 B 5 1 A A' n c n' c' (bytes M ++ bytes N)) (hb : Below B w W1) : PK w B x (M ++ N) A' n' c' W1 := by
  refine ⟨hb, (Only.of_grown ha.grown).blk h.blk (fun e => h.ne e.symm), ?_, ?_⟩
  · rw [bytes_append]; exact ha.own
  · rcases ha.place with e | e
    · rw [e]; exact h.ne
    · rw [e]
      intro e2
      have := h.size
      injection e2 with e2
      omega
theorem PK.lie {y : List Value} {C : Option Addr} (h : PK w B x M A n c W) (hB : B ≤ w.heap.size) (hl : Lie w B C y) : Lie W W.heap.size C y := (hl.below h.bw).more (Nat.le_trans hB h.bw.size)
theorem PK.cells (h : PK w B x M A n c W) : W.cell? ⟨w.heap.size, 0, none⟩ = some (.int .u64 x.u) ∧ W.cell? ⟨w.heap.size, 1, none⟩ = some (.int .i64 x.n) ∧ W.cell? ⟨w.heap.size, 2, none⟩ = some (.slice x.sA x.s.length x.sc) ∧
    W.cell? ⟨w.heap.size, 3, none⟩ = some (.bool x.v) ∧ W.cell? ⟨w.heap.size, 4, none⟩ = some (.slice x.lA x.L.length x.lc) := ⟨h.blk.cell 0, h.blk.cell 1, h.blk.cell 2, h.blk.cell 3, h.blk.cell 4⟩
end

/-- what put hands back. -/
def GotPut (w : World) (B : Nat) (M : List UInt8) (e : Ending) (w' : World) : Prop :=
  ∃ A c, e = .returned (.slice A M.length c) ∧ w'.ownsRow B 5 1 (.slice A M.length c) M.length (bytes M) ∧ Below B w w'
theorem gotput_of {w w' : World} {B n c : Nat} {A : Option Addr} {x : It} {M N : List UInt8} (h : PK w B x N A n c w') (he : N = M) (hn : M.length = n) : GotPut w B M (.returned (.slice A n c)) w' := by
  subst he hn; exact ⟨A, c, rfl, h.own, h.bw⟩
theorem encV_len (v : Bool) : (Bin.encV v).length = 1 := by cases v <;> rfl

set_option maxRecDepth 100000 in
set_option maxHeartbeats 3200000 in
theorem put_any (B : Nat) (A : Option Addr) (n c : Nat) (M : List UInt8) (x : It) (w : World) (hn : n = M.length) (hM : M.length ≤ 1000000) (hB : B ≤ w.heap.size) (hO : w.ownsRow B 5 1 (.slice A n c) n (bytes M))
    (hx : GoodI w B x) (hs : x.s.length ≤ 200) (hL : x.L.length ≤ 50) :
    Calls Try.prog 31 #[.slice A n c, iv x] w (GotPut w B (M ++ encT x)) := by
  subst hn
  obtain ⟨i0, hi, hz0, hz1, hz2⟩ := info_parts info_b
  obtain ⟨x1, x2, x3, x4, x5, x6, x7⟩ := hx
  have P0 := hide (PK.new (x := x) hB hO)
  have n1 := (Bin.enc_len x.u).2
  have n2 : (Bin.encI x.n).length ≤ 10 := (Bin.enc_len (Bin.zig x.n)).2
  have n3 : (Bin.encB x.s).length ≤ 300 := by
    have := (Bin.enc_len x.s.length).2
    unfold Bin.encB; rw [List.length_append]; omega
  have n4 : (Bin.encV x.v).length ≤ 1 := by rw [encV_len]; omega
  have n5 : (Bin.encL x.L).length ≤ 600 := by
    have h1 := (Bin.enc_len x.L.length).2
    have h2 := encIs_len x.L
    unfold Bin.encL; rw [List.length_append]; omega
  have HN : Hid ((M ++ encT x).length = M.length + (Bin.enc x.u).length + (Bin.encI x.n).length + (Bin.encB x.s).length + (Bin.encV x.v).length + (Bin.encL x.L).length) := hide (by
    unfold encT; simp only [List.length_append]; omega)
  have HE : Hid (M ++ Bin.enc x.u ++ Bin.encI x.n ++ Bin.encB x.s ++ Bin.encV x.v ++ Bin.encL x.L = M ++ encT x) := hide (by unfold encT; simp only [List.append_assoc])
  have HC1 := hide (fun W => putuint_any x.u W x1)
  have HC2 := hide (fun W => putint_any x.n W x2)
  have HC3 := hide (fun (W : World) (h : Lie W W.heap.size x.sA (bytes x.s)) => putbytes_any x.sA _ x.sc x.s W rfl (by omega) h)
  have HC4 := hide (fun W => putbool_any x.v W)
  have HC5 := hide (fun (W : World) (h : Lie W W.heap.size x.lA (ints x.L)) => putints_any x.lA _ x.lc x.L W rfl (by omega) x6 h)
  have X4 := hide x4
  have X7 := hide x7
  have HL1 := hide (bytes_len (Bin.enc x.u))
  have HL2 := hide (bytes_len (Bin.encI x.n))
  have HL3 := hide (bytes_len (Bin.encB x.s))
  have HL4 := hide (bytes_len (Bin.encV x.v))
  have HL5 := hide (bytes_len (Bin.encL x.L))
  generalize M ++ encT x = MX at HN HE ⊢
  obtain ⟨xu, xn, sA, sc, s, v, lA, lc, L⟩ := x
  simp only at *
  generalize Bin.enc xu = E1 at *
  generalize Bin.encI xn = E2 at *
  generalize Bin.encB s = E3 at *
  generalize Bin.encV v = E4 at *
  generalize Bin.encL L = E5 at *
  clear x1 x2 x3 x4 x5 x6 x7 hO
  unfold iv
  simp only [icells] at P0
  go_enter Try.func31, Try.ntmps31
  go_upto_region 1 with fail
  generalize w.alloc (.cells #[.int .u64 xu, .int .i64 xn, .slice sA s.length sc, .bool v, .slice lA L.length lc] 45) = wa at *
  have BS := hide hB
  obtain ⟨c0, -, -, -, -⟩ := P0.out.cells
  go_wp2_with fail
  refine Calls.mono (HC1.out _) ?_
  rintro e w1 ⟨A1, d1, rfl, o1, b1⟩
  have P1 := P0.out.next hB b1
  obtain ⟨-, c1, -, -, -⟩ := P1.cells
  clear c0 b1 P0
  go_wp2_with (at_builtin; refine wpList_app rfl (.tmp 6) (.tmp 9) _ rfl B 5 i0 _ 1 1 Try.underlying22 hi hz0 hz1 hz2 rfl (by omega) A M.length c (bytes M) rfl P1.own w1.heap.size A1 E1.length d1 (bytes E1) rfl (by rw [HL1.out]; omega) (Lie.of_own o1) (bytes_one _) (by omega) (by unfold maxLen; omega) (Nat.le_trans hB P1.bw.size) w P1.bw ?_; intro A2 c2 w2 HA2 b2; have P2 := P1.app HA2.out b2; have cc := P2.cells.2.1; clear o1 c1 P1 HA2)
  refine Calls.mono (HC2.out _) ?_
  rintro e w3 ⟨A3, d3, rfl, o3, b3⟩
  have P3 := P2.next hB b3
  clear cc b2 b3 P2
  go_wp2_with (at_builtin; refine wpList_app rfl (.tmp 11) (.tmp 14) _ rfl B 5 i0 _ 1 1 Try.underlying22 hi hz0 hz1 hz2 rfl (by omega) A2 (M.length + E1.length) c2 (bytes (M ++ E1)) rfl P3.own w3.heap.size A3 E2.length d3 (bytes E2) rfl (by rw [HL2.out]; omega) (Lie.of_own o3) (bytes_one _) (by omega) (by unfold maxLen; omega) (Nat.le_trans hB P3.bw.size) w P3.bw ?_; intro A4 c4 w4 HA4 b4; have P4 := P3.app HA4.out b4; have cc := P4.cells.2.2.1; clear o3 P3 HA4)
  refine Calls.mono (HC3.out _ (P4.lie hB X4.out)) ?_
  rintro e w5 ⟨A5, d5, rfl, o5, b5⟩
  have P5 := P4.next hB b5
  clear cc b4 b5 P4
  go_wp2_with (at_builtin; refine wpList_app rfl (.tmp 16) (.tmp 19) _ rfl B 5 i0 _ 1 1 Try.underlying22 hi hz0 hz1 hz2 rfl (by omega) A4 (M.length + E1.length + E2.length) c4 (bytes (M ++ E1 ++ E2)) rfl P5.own w5.heap.size A5 E3.length d5 (bytes E3) rfl (by rw [HL3.out]; omega) (Lie.of_own o5) (bytes_one _) (by omega) (by unfold maxLen; omega) (Nat.le_trans hB P5.bw.size) w P5.bw ?_; intro A6 c6 w6 HA6 b6; have P6 := P5.app HA6.out b6; have cc := P6.cells.2.2.2.1; clear o5 P5 HA6)
  refine Calls.mono (HC4.out _) ?_
  rintro e w7 ⟨A7, d7, rfl, o7, b7⟩
  have P7 := P6.next hB b7
  clear cc b6 b7 P6
  go_wp2_with (at_builtin; refine wpList_app rfl (.tmp 21) (.tmp 24) _ rfl B 5 i0 _ 1 1 Try.underlying22 hi hz0 hz1 hz2 rfl (by omega) A6 (M.length + E1.length + E2.length + E3.length) c6 (bytes (M ++ E1 ++ E2 ++ E3)) rfl P7.own w7.heap.size A7 E4.length d7 (bytes E4) rfl (by rw [HL4.out]; omega) (Lie.of_own o7) (bytes_one _) (by omega) (by unfold maxLen; omega) (Nat.le_trans hB P7.bw.size) w P7.bw ?_; intro A8 c8 w8 HA8 b8; have P8 := P7.app HA8.out b8; have cc := P8.cells.2.2.2.2; clear o7 P7 HA8)
  refine Calls.mono (HC5.out _ (P8.lie hB X7.out)) ?_
  rintro e w9 ⟨A9, d9, rfl, o9, b9⟩
  have P9 := P8.next hB b9
  clear cc b8 b9 P8
  go_wp2_with (at_builtin; refine wpList_app rfl (.tmp 26) (.tmp 29) _ rfl B 5 i0 _ 1 1 Try.underlying22 hi hz0 hz1 hz2 rfl (by omega) A8 (M.length + E1.length + E2.length + E3.length + E4.length) c8 (bytes (M ++ E1 ++ E2 ++ E3 ++ E4)) rfl P9.own w9.heap.size A9 E5.length d9 (bytes E5) rfl (by rw [HL5.out]; omega) (Lie.of_own o9) (bytes_one _) (by omega) (by unfold maxLen; omega) (Nat.le_trans hB P9.bw.size) w P9.bw ?_; intro A10 c10 w10 HA10 b10; have P10 := P9.app HA10.out b10; clear o9 P9 HA10)
  go_ret
  exact gotput_of P10 HE.out HN.out
end Go.Proofs.Ytjbdfmniiiaakaa
