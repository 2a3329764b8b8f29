/- The reference's Flip returns the string with the pattern's bits turned, or nothing where a bit lies outside, for an index of at most 10000000. -/
import Derived.Test.YtjbdfmniiiaakaaRef10
import Derived.BigRegion
namespace Go.Proofs.Ytjbdfmniiiaakaa
set_option linter.unusedVariables false
open Go.RowKit

/-- a block with the run-time's mark behind its last cell ('[]byte(s)'). -/
def RowM (w : World) (g : Nat) (t : TypeId) (cs : Array Value) : Prop := w.heap[g]? = some (.cells cs t (cs.size, cs.size + 1))
section
variable {w w' : World} {g : Nat} {t : TypeId} {cs : Array Value}
theorem RowM.lt (h : RowM w g t cs) : g < w.heap.size := (Array.getElem?_eq_some_iff.1 h).1
theorem RowM.cell (h : RowM w g t cs) (i : Nat) : w.cell? ⟨g, i, none⟩ = cs[i]? := cell_of_row w g i cs t _ h
theorem RowM.free (h : RowM w g t cs) (i : Nat) (hi : i < cs.size) : w.frozen? ⟨g, i, none⟩ = false := by
  unfold RowM at h
  simp [World.frozen?, h]
  omega
theorem RowM.drew (h : RowM w g t cs) : RowM w.drew g t cs := h
theorem RowM.store (h : RowM w g t cs) (i : Nat) (u : Value) : RowM (w.setCell ⟨g, i, none⟩ u) g t (cs.setIfInBounds i u) := by
  unfold RowM at h ⊢
  simp [World.setCell, Array.getElem?_modify, h]
theorem RowM.below {B : Nat} (h : RowM w g t cs) (hb : Below B w w') (hg : g < B) : RowM w' g t cs := (hb.block g hg).trans h
end

/-- '[]byte(s)' by what is known of it. -/
theorem run_bytes {P : Program} (w : World) (src dst e : TypeId) (l : List UInt8) (hs : P.underlying src = some .string) (hd : P.underlying dst = some (.slice e)) (he : P.underlying e = some (.int .u8)) :
    ∃ C W1, Hid (∃ R, W1 = w.drew.alloc (.cells R e (R.size, R.size + 1)) ∧ R.size = C ∧ R.toList.take l.length = bytes l ∧ l.length ≤ C) ∧
      (convert src dst (.string ⟨l.toArray⟩)).run P w = .ok (.slice (some ⟨w.heap.size, 0, none⟩) l.length C) W1 := by
  have hr := run_bytes_of_string (P := P) w src dst e ⟨l.toArray⟩ hs hd he
  have hsz : (⟨l.toArray⟩ : ByteArray).size = l.length := by simp [ByteArray.size]
  rw [hsz] at hr
  refine ⟨_, _, ⟨_, rfl, ?_, ?_, ?_⟩, hr⟩
  · have := grownCap_ge w l.length 0 e
    simp [bytesRow, hsz]; omega
  · simp [bytesRow, bytes]
  · exact grownCap_ge w l.length 0 e

theorem bit_u32 (pat k : Nat) (h : pat < 4294967296) : bits .and .u32 ((pat : Int) / 2 ^ k) 1 = ((pat / 2 ^ k % 2 : Nat) : Int) := by
  have := and1_u32 (pat / 2 ^ k) (Nat.lt_of_le_of_lt (Nat.div_le_self _ _) h)
  rw [Int.natCast_ediv, Int.natCast_pow] at this
  exact this

/-- the state behind k rounds: the bytes X in the block's first cells. -/
def FlipSt (l : List UInt8) (at_ pat k C : Nat) (cs : Array Value) : Prop :=
  cs.size = C ∧ l.length ≤ C ∧ ∃ X : List UInt8, X.length = l.length ∧ cs.toList.take l.length = bytes X ∧ Crc.num X = Crc.num l ^^^ 2 ^ at_ * (pat % 2 ^ k)

theorem mod_succ_even (pat k : Nat) (h : pat / 2 ^ k % 2 = 0) : pat % 2 ^ (k + 1) = pat % 2 ^ k := by
  rw [Nat.pow_succ, Nat.mod_mul, h]; omega
theorem mod_succ_odd (pat k : Nat) (h : pat / 2 ^ k % 2 = 1) : pat % 2 ^ (k + 1) = pat % 2 ^ k ^^^ 2 ^ k := by
  rw [Nat.pow_succ, Nat.mod_mul, h, Nat.mul_one]
  have := Crc.add_xor (pat % 2 ^ k) 1 k (Nat.mod_lt _ (Nat.two_pow_pos k))
  rw [Nat.mul_one] at this
  exact this

theorem FlipSt.skip {l : List UInt8} {at_ pat k C : Nat} {cs : Array Value} (h : FlipSt l at_ pat k C cs) (hp : pat / 2 ^ k % 2 = 0) : FlipSt l at_ pat (k + 1) C cs := by
  unfold FlipSt at h ⊢
  rw [mod_succ_even pat k hp]
  exact h
theorem FlipSt.at_ {l : List UInt8} {at_ pat k C : Nat} {cs : Array Value} (h : FlipSt l at_ pat k C cs) (j : Nat) (hj : j < l.length) :
    ∃ x : UInt8, cs[j]? = some (.int .u8 x.toNat) ∧ (pat / 2 ^ k % 2 = 1 → j = (at_ + k) / 8 → ∀ y : UInt8, y.toNat = x.toNat ^^^ 2 ^ ((at_ + k) % 8) → FlipSt l at_ pat (k + 1) C (cs.setIfInBounds j (.int .u8 y.toNat))) := by
  obtain ⟨h1, h2, X, h3, h4, h5⟩ := h
  have hjX : j < X.length := by omega
  refine ⟨X[j], ?_, fun hp hjj y hy => ⟨by simp [h1], h2, X.set j y, by simp [h3], ?_, ?_⟩⟩
  · have := congrArg (fun L : List Value => L[j]?) h4
    simp only [List.getElem?_take, if_pos hj, bytes_get X j hjX] at this
    simpa using this
  · rw [Array.toList_setIfInBounds, List.take_set, h4]
    simp [bytes, List.map_set]
  · rw [Crc.num_set X j hjX ((at_ + k) % 8) y hy, h5, mod_succ_odd pat k hp, Crc.mul_xor, ← Nat.pow_add, hjj, Nat.div_add_mod, Nat.xor_assoc]

/-- what Flip hands back. -/
def FlipGot (w : World) (l : List UInt8) (at_ pat : Nat) (e : Ending) (w' : World) : Prop :=
  Below w.heap.size w w' ∧ ((e = .returned (.tuple #[.slice none 0 0, .bool false]) ∧ ∃ k, k < 32 ∧ l.length ≤ (at_ + k) / 8) ∨
    ∃ g C cs, e = .returned (.tuple #[.slice (some ⟨g, 0, none⟩) l.length C, .bool true]) ∧ w.heap.size ≤ g ∧ RowM w' g 5 cs ∧ FlipSt l at_ pat 32 C cs)

theorem xor_bit (x : UInt8) (m : Nat) (hm : m < 8) : ∃ y : UInt8, bits .xor .u8 (x.toNat : Int) ((2 : Int) ^ m % 256) = (y.toNat : Int) ∧ y.toNat = x.toNat ^^^ 2 ^ m := by
  have h1 : (2 : Nat) ^ m < 256 := Nat.pow_lt_pow_right (a := 2) (m := m) (n := 8) (by omega) hm
  have h2 : x.toNat ^^^ 2 ^ m < 256 := Nat.xor_lt_two_pow (n := 8) x.toNat_lt h1
  have h3 : (UInt8.ofNat (x.toNat ^^^ 2 ^ m)).toNat = x.toNat ^^^ 2 ^ m := Bin.ofNat_small h2
  refine ⟨UInt8.ofNat (x.toNat ^^^ 2 ^ m), ?_, h3⟩
  have h4 : ((2 : Int) ^ m % 256) = ((2 ^ m : Nat) : Int) := by
    have h5 : ((2 ^ m : Nat) : Int) < 256 := by omega
    rw [Int.natCast_pow] at h5 ⊢
    exact Int.emod_eq_of_lt (Int.le_of_lt (Int.pow_pos (by omega))) h5
  rw [h4, u8_xor_nat _ _ x.toNat_lt h1, h3]

set_option maxRecDepth 100000 in
set_option maxHeartbeats 1600000 in
theorem flip_any (A : Option Addr) (n cap : Nat) (l : List UInt8) (at_ pat : Nat) (w : World) (hn : n = l.length) (hat : at_ ≤ 10000000) (hpat : pat < 4294967296) (hA : Lie w w.heap.size A (bytes l)) :
    Calls Try.prog 47 #[.slice A n cap, .int .i64 at_, .int .u32 pat] w (FlipGot w l at_ pat) := by
  subst hn
  have h1 := run_str (P := Try.prog) w 22 9 5 A cap l _ Try.underlying22 Try.underlying5 Try.underlying9 hA
  obtain ⟨C, W1, HW, h2⟩ := run_bytes (P := Try.prog) w 9 22 5 l Try.underlying9 Try.underlying22 Try.underlying5
  have hst : ∃ cs, Below w.heap.size w W1 ∧ RowM W1 w.heap.size 5 cs ∧ Hid (FlipSt l at_ pat 0 C cs) := by
    obtain ⟨R, q1, q2, q3, q4⟩ := HW.out
    subst q1
    refine ⟨R, by go_grown, heap_alloc_new w.drew _, q2, q4, l, rfl, q3, by simp [Nat.mod_one]⟩
  obtain ⟨cs0, hb0, hr0, HF0⟩ := hst
  clear HW
  go_enter Try.func47, Try.ntmps47
  go_wp2_with fail
  clear h1 h2
  go_loopw [9] (fun i wr => ∃ (k : Nat) (cs : Array Value), k ≤ 32 ∧ i = .int .i64 k ∧ Below w.heap.size w wr ∧ RowM wr w.heap.size 5 cs ∧ Hid (FlipSt l at_ pat k C cs)) (fun i _ => 32 - (intOf i).toNat)
  case atStart => exact ⟨0, cs0, by omega, rfl, hb0, hr0, HF0⟩
  case round =>
    obtain ⟨k, cs, hk, rfl, hb, hr, HF⟩ := hrel
    have hbit := bit_u32 pat k hpat
    by_cases hlt : k < 32
    · by_cases hp : pat / 2 ^ k % 2 = 0
      · have HF2 := hide (HF.out.skip hp)
        rw [hp] at hbit
        clear hp
        go_wp2_with fail
        go_roundw
        case rel => exact ⟨k + 1, cs, by omega, by go_num, hb, hr, HF2⟩
        case measure => simp [intOf]; omega
      · have hp1 : pat / 2 ^ k % 2 = 1 := by omega
        rw [hp1] at hbit
        by_cases hin : (at_ + k) / 8 < l.length
        · obtain ⟨x, hx, hstep⟩ := HF.out.at_ _ hin
          have hcell := (hr.cell ((at_ + k) / 8)).trans hx
          have hfree := hr.free ((at_ + k) / 8) (by have := HF.out.1; have := HF.out.2.1; omega)
          have HS := hide (hstep hp1 rfl)
          clear hstep hx hp hp1
          have hi1 : (((at_ : Int) + (k : Int)) / 8) < (l.length : Int) := by omega
          go_wp2_with fail
          go_region
          go_wp2_with fail
          obtain ⟨y, hy1, hy2⟩ := xor_bit x ((at_ + k) % 8) (by omega)
          rw [hy1]
          have hst := HS.out y hy2
          go_roundw
          case rel => exact ⟨k + 1, _, by omega, by go_num, (hb.setCell (p := ⟨w.heap.size, (at_ + k) / 8, none⟩) (Nat.le_refl _) _).drew, (hr.store _ _).drew, hst⟩
          case measure => simp [intOf]; omega
        · clear hp hp1
          go_wp2_with fail
          go_ret2
          exact ⟨hb, .inl ⟨rfl, k, hlt, by omega⟩⟩
    · obtain rfl : k = 32 := by omega
      go_wp2_with fail
      go_ret2
      exact ⟨hb, .inr ⟨_, C, cs, rfl, Nat.le_refl _, hr, HF.out⟩⟩
end Go.Proofs.Ytjbdfmniiiaakaa
