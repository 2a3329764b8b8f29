/- Plain CRC mathematics: table driven and bitwise registers agree, the register is linear, and a burst of at most 32 bits changes the checksum. No condition; no Go in sight. -/
namespace Go.Proofs.Ytjbdfmniiiaakaa.Crc
/-- One step of the reflected CRC register. -/
def sh1 (c : Nat) : Nat := if c % 2 = 1 then (c / 2) ^^^ 3988292384 else c / 2
def sh : Nat → Nat → Nat
  | 0, c => c
  | n + 1, c => sh n (sh1 c)

theorem div2_xor (a b : Nat) : (a ^^^ b) / 2 = a / 2 ^^^ b / 2 := by
  have := Nat.shiftRight_xor_distrib (a := a) (b := b) (i := 1)
  simpa [Nat.shiftRight_eq_div_pow] using this

theorem xor_mod2 (a b : Nat) : ((a ^^^ b) % 2 = 1) ↔ ¬ (a % 2 = 1 ↔ b % 2 = 1) := by
  have h := Nat.testBit_xor (x := a) (y := b) (i := 0)
  simp only [Nat.testBit_zero] at h
  by_cases ha : a % 2 = 1 <;> by_cases hb : b % 2 = 1 <;> simp [ha, hb] at h ⊢ <;> omega

theorem sh1_xor (a b : Nat) : sh1 (a ^^^ b) = sh1 a ^^^ sh1 b := by
  unfold sh1
  have h := xor_mod2 a b
  rw [div2_xor]
  by_cases ha : a % 2 = 1 <;> by_cases hb : b % 2 = 1
  · rw [if_neg (by omega), if_pos ha, if_pos hb]
    generalize a / 2 = x
    generalize b / 2 = y
    rw [Nat.xor_assoc, ← Nat.xor_assoc 3988292384 y, Nat.xor_comm 3988292384 y, Nat.xor_assoc y, Nat.xor_self, Nat.xor_zero]
  · rw [if_pos (by omega), if_pos ha, if_neg hb, Nat.xor_assoc, Nat.xor_assoc, Nat.xor_comm (b/2)]
  · rw [if_pos (by omega), if_neg ha, if_pos hb, Nat.xor_assoc]
  · rw [if_neg (by omega), if_neg ha, if_neg hb]

theorem sh_xor (n a b : Nat) : sh n (a ^^^ b) = sh n a ^^^ sh n b := by
  induction n generalizing a b with
  | zero => rfl
  | succ n ih => simp only [sh]; rw [sh1_xor, ih]

theorem sh1_double (a : Nat) : sh1 (2 * a) = a := by
  unfold sh1; rw [if_neg (by omega)]; omega

theorem sh_pow (n a : Nat) : sh n (2 ^ n * a) = a := by
  induction n generalizing a with
  | zero => simp [sh]
  | succ n ih => 
    simp only [sh]
    rw [Nat.pow_succ, Nat.mul_comm (2 ^ n) 2, Nat.mul_assoc, sh1_double, ih]

theorem sh_add (m n a : Nat) : sh (m + n) a = sh n (sh m a) := by
  induction m generalizing a with
  | zero => simp [sh]
  | succ m ih => rw [show m + 1 + n = (m + n) + 1 by omega]; simp only [sh]; rw [ih]

theorem sh1_lt (c : Nat) (h : c < 4294967296) : sh1 c < 4294967296 := by
  unfold sh1
  have : (4294967296 : Nat) = 2 ^ 32 := rfl
  split
  · rw [this]; exact Nat.xor_lt_two_pow (by omega) (by omega)
  · omega

theorem sh_lt (n c : Nat) (h : c < 4294967296) : sh n c < 4294967296 := by
  induction n generalizing c with
  | zero => exact h
  | succ n ih => exact ih _ (sh1_lt c h)

theorem eq_of_xor_zero {a b : Nat} (h : a ^^^ b = 0) : a = b := by
  have := congrArg (· ^^^ b) h
  simpa [Nat.xor_assoc, Nat.xor_self] using this

theorem sh1_ne (c : Nat) (h : c < 4294967296) (h0 : c ≠ 0) : sh1 c ≠ 0 := by
  unfold sh1
  split
  · intro h
    have := eq_of_xor_zero h
    omega
  · omega

theorem sh_ne (n c : Nat) (h : c < 4294967296) (h0 : c ≠ 0) : sh n c ≠ 0 := by
  induction n generalizing c with
  | zero => exact h0
  | succ n ih => exact ih _ (sh1_lt c h) (sh1_ne c h h0)

/-- the register after a byte. -/
def push (c : Nat) (b : UInt8) : Nat := sh 8 (c ^^^ b.toNat)
def run (c : Nat) (l : List UInt8) : Nat := l.foldl push c
def mask : Nat := 4294967295
def upd (c : Nat) (l : List UInt8) : Nat := run (c ^^^ mask) l ^^^ mask
def sum (l : List UInt8) : Nat := upd 0 l

theorem run_nil (c : Nat) : run c [] = c := rfl
theorem run_cons (c : Nat) (b : UInt8) (l : List UInt8) : run c (b :: l) = run (push c b) l := rfl
theorem run_append (c : Nat) (l m : List UInt8) : run c (l ++ m) = run (run c l) m := by simp [run]
theorem push_lt (c : Nat) (b : UInt8) (h : c < 4294967296) : push c b < 4294967296 := by
  refine sh_lt _ _ ?_
  have := b.toNat_lt
  exact Nat.xor_lt_two_pow (n := 32) h (by omega)
theorem run_lt (c : Nat) (l : List UInt8) (h : c < 4294967296) : run c l < 4294967296 := by
  induction l generalizing c with
  | nil => exact h
  | cons b l ih => exact ih _ (push_lt c b h)
theorem mask_lt : mask < 4294967296 := by unfold mask; omega
theorem xmask_lt (c : Nat) (h : c < 4294967296) : c ^^^ mask < 4294967296 := Nat.xor_lt_two_pow (n := 32) h mask_lt
theorem upd_lt (c : Nat) (l : List UInt8) (h : c < 4294967296) : upd c l < 4294967296 := xmask_lt _ (run_lt _ _ (xmask_lt _ h))
theorem sum_lt (l : List UInt8) : sum l < 4294967296 := upd_lt 0 l (by omega)
theorem xmask_xmask (c : Nat) : c ^^^ mask ^^^ mask = c := by rw [Nat.xor_assoc, Nat.xor_self, Nat.xor_zero]
theorem upd_append (c : Nat) (l m : List UInt8) : upd c (l ++ m) = upd (upd c l) m := by
  unfold upd; rw [xmask_xmask, run_append]

/-- the table's entry. -/
def tab (i : Nat) : Nat := sh 8 i
theorem tab_lt (i : Nat) (h : i < 256) : tab i < 4294967296 := sh_lt _ _ (by omega)

theorem split8 (c : Nat) : 2 ^ 8 * (c / 256) ^^^ c % 256 = c := by
  have h := Nat.two_pow_add_eq_or_of_lt (i := 8) (b := c % 256) (by omega) (c / 256)
  apply Nat.eq_of_testBit_eq
  intro i
  rw [Nat.testBit_xor, Nat.testBit_two_pow_mul]
  have h2 : c % 256 = c % 2 ^ 8 := rfl
  have h3 : c / 256 = c / 2 ^ 8 := rfl
  rw [h2, h3, Nat.testBit_mod_two_pow, Nat.testBit_div_two_pow]
  by_cases hi : i < 8
  · have : ¬ 8 ≤ i := by omega
    simp [hi, this]
  · have : 8 ≤ i := by omega
    simp [hi, this]

theorem push_table (c : Nat) (b : UInt8) : push c b = (c / 256) ^^^ tab (c % 256 ^^^ b.toNat) := by
  unfold push tab
  conv => lhs; rw [← split8 c]
  rw [Nat.xor_assoc, sh_xor, sh_pow]

example : sum ("123456789".toUTF8.data.toList) = 3421780262 := by decide +kernel

/-! ### bursts -/
/-- the number of a byte string, its first byte lowest. -/
def num : List UInt8 → Nat
  | [] => 0
  | b :: l => b.toNat + 256 * num l

theorem num_lt (l : List UInt8) : num l < 2 ^ (8 * l.length) := by
  induction l with
  | nil => simp [num]
  | cons b l ih =>
    have := b.toNat_lt
    have h : (2 : Nat) ^ (8 * (l.length + 1)) = 256 * 2 ^ (8 * l.length) := by
      rw [Nat.mul_add, Nat.pow_add]; omega
    simp only [num, List.length_cons, h]
    omega

theorem num_inj (l m : List UInt8) (hl : l.length = m.length) (h : num l = num m) : l = m := by
  induction l generalizing m with
  | nil => cases m with
    | nil => rfl
    | cons _ _ => simp at hl
  | cons b l ih =>
    cases m with
    | nil => simp at hl
    | cons d m =>
      have h1 := b.toNat_lt
      have h2 := d.toNat_lt
      simp only [num] at h
      have e : b.toNat = d.toNat := by omega
      have e2 : num l = num m := by omega
      rw [UInt8.toNat_inj.1 e, ih m (by simpa using hl) e2]

theorem byte_xor (b : Nat) (h : b < 256) (n : Nat) : b + 256 * n = b ^^^ 2 ^ 8 * n := by
  have := split8 (b + 256 * n)
  rw [show (b + 256 * n) / 256 = n by omega, show (b + 256 * n) % 256 = b by omega, Nat.xor_comm] at this
  exact this.symm

theorem run_num (l : List UInt8) (c : Nat) : run c l = sh (8 * l.length) (c ^^^ num l) := by
  induction l generalizing c with
  | nil => simp [run, num, sh]
  | cons b l ih =>
    rw [run_cons, ih]
    have e : 8 * (b :: l).length = 8 + 8 * l.length := by simp; omega
    rw [e, sh_add]
    congr 1
    simp only [num]
    rw [byte_xor _ b.toNat_lt, ← Nat.xor_assoc, sh_xor, sh_pow]; rfl

theorem sum_ne (l m : List UInt8) (hl : l.length = m.length) (pat at_ : Nat) (hp : pat < 4294967296) (h0 : pat ≠ 0) (hat : at_ ≤ 8 * l.length)
    (h : num m = num l ^^^ 2 ^ at_ * pat) : sum m ≠ sum l := by
  intro he
  have h1 : run (0 ^^^ mask) m = run (0 ^^^ mask) l := by
    have := congrArg (· ^^^ mask) he
    simpa [sum, upd, Nat.xor_assoc, Nat.xor_self] using this
  rw [run_num, run_num, h, ← hl, ← Nat.xor_assoc, sh_xor] at h1
  have h2 : sh (8 * l.length) (2 ^ at_ * pat) = 0 := by
    have := congrArg (sh (8 * l.length) (0 ^^^ mask ^^^ num l) ^^^ ·) h1
    simpa [← Nat.xor_assoc, Nat.xor_self] using this
  obtain ⟨k, hk⟩ : ∃ k, 8 * l.length = at_ + k := ⟨8 * l.length - at_, by omega⟩
  rw [hk, sh_add, sh_pow] at h2
  exact sh_ne k pat hp h0 h2

theorem num_append (l m : List UInt8) : num (l ++ m) = num l + 2 ^ (8 * l.length) * num m := by
  induction l with
  | nil => simp [num]
  | cons b l ih =>
    simp only [List.cons_append, num, ih, List.length_cons]
    rw [show 8 * (l.length + 1) = 8 * l.length + 8 by omega, Nat.pow_add, Nat.mul_add]
    rw [show (2 : Nat) ^ 8 = 256 from rfl, Nat.mul_comm (2 ^ (8 * l.length)) 256, Nat.mul_assoc]
    omega

theorem add_xor (a n k : Nat) (h : a < 2 ^ k) : a + 2 ^ k * n = a ^^^ 2 ^ k * n := by
  apply Nat.eq_of_testBit_eq
  intro i
  rw [Nat.testBit_xor, Nat.testBit_two_pow_mul, Nat.add_comm, Nat.testBit_two_pow_mul_add _ h]
  by_cases hi : i < k
  · have : ¬ k ≤ i := by omega
    simp [hi, this]
  · have h2 : k ≤ i := by omega
    have : a.testBit i = false := Nat.testBit_lt_two_pow (Nat.lt_of_lt_of_le h (Nat.pow_le_pow_right (by omega) h2))
    simp [hi, h2, this]

theorem mul_xor (k a b : Nat) : 2 ^ k * (a ^^^ b) = 2 ^ k * a ^^^ 2 ^ k * b := by
  simp only [Nat.mul_comm (2 ^ k), ← Nat.shiftLeft_eq, Nat.shiftLeft_xor_distrib]

/-- one bit of one byte turned. -/
theorem num_set (l : List UInt8) (j : Nat) (hj : j < l.length) (k : Nat) (x : UInt8) (hx : x.toNat = l[j].toNat ^^^ 2 ^ k) :
    num (l.set j x) = num l ^^^ 2 ^ (8 * j + k) := by
  induction l generalizing j with
  | nil => simp at hj
  | cons b l ih =>
    cases j with
    | zero =>
      simp only [List.getElem_cons_zero] at hx
      simp only [List.set_cons_zero, num, Nat.mul_zero, Nat.zero_add]
      rw [byte_xor _ x.toNat_lt, byte_xor _ b.toNat_lt, hx, Nat.xor_assoc, Nat.xor_assoc, Nat.xor_comm (2 ^ k)]
    | succ j =>
      simp only [List.getElem_cons_succ] at hx
      simp only [List.set_cons_succ, num]
      rw [byte_xor _ b.toNat_lt, byte_xor _ b.toNat_lt, ih j (by simpa using hj) hx, Nat.xor_assoc]
      congr 1
      have e : (2 : Nat) ^ (8 * (j + 1) + k) = 2 ^ 8 * 2 ^ (8 * j + k) := by rw [← Nat.pow_add]; congr 1; omega
      rw [e, mul_xor]

/-! ### the exclusive or of three strings -/
def x3 : List UInt8 → List UInt8 → List UInt8 → List UInt8
  | a :: as, b :: bs, c :: cs => (a ^^^ b ^^^ c) :: x3 as bs cs
  | _, _, _ => []
theorem xor_four (a b c x y z : Nat) : (a ^^^ b ^^^ c) ^^^ (x ^^^ y ^^^ z) = (a ^^^ x) ^^^ (b ^^^ y) ^^^ (c ^^^ z) := by
  apply Nat.eq_of_testBit_eq
  intro i
  simp only [Nat.testBit_xor]
  cases a.testBit i <;> cases b.testBit i <;> cases c.testBit i <;> cases x.testBit i <;> cases y.testBit i <;> cases z.testBit i <;> rfl
theorem x3_len (a b c : List UInt8) (hb : b.length = a.length) (hc : c.length = a.length) : (x3 a b c).length = a.length := by
  induction a generalizing b c with
  | nil => cases b <;> cases c <;> simp_all [x3]
  | cons x a ih =>
    cases b with
    | nil => simp at hb
    | cons y b =>
      cases c with
      | nil => simp at hc
      | cons z c =>
        simp only [x3, List.length_cons]
        rw [ih b c (by simpa using hb) (by simpa using hc)]
theorem num_x3 (a b c : List UInt8) (hb : b.length = a.length) (hc : c.length = a.length) : num (x3 a b c) = num a ^^^ num b ^^^ num c := by
  induction a generalizing b c with
  | nil => cases b <;> cases c <;> simp_all [x3, num]
  | cons x a ih =>
    cases b with
    | nil => simp at hb
    | cons y b =>
      cases c with
      | nil => simp at hc
      | cons z c =>
        simp only [x3, num]
        rw [ih b c (by simpa using hb) (by simpa using hc), byte_xor _ x.toNat_lt, byte_xor _ y.toNat_lt, byte_xor _ z.toNat_lt, byte_xor _ (x ^^^ y ^^^ z).toNat_lt, mul_xor, mul_xor, UInt8.toNat_xor, UInt8.toNat_xor, xor_four]
theorem sum_x3 (a b c : List UInt8) (hb : b.length = a.length) (hc : c.length = a.length) : sum (x3 a b c) = sum a ^^^ sum b ^^^ sum c := by
  unfold sum upd
  rw [run_num, run_num, run_num, run_num, x3_len a b c hb hc, hb, hc, num_x3 a b c hb hc]
  have e : (0 ^^^ mask) ^^^ (num a ^^^ num b ^^^ num c) = ((0 ^^^ mask) ^^^ num a) ^^^ ((0 ^^^ mask) ^^^ num b) ^^^ ((0 ^^^ mask) ^^^ num c) := by
    rw [← xor_four]
    simp only [Nat.zero_xor]
    rw [Nat.xor_self, Nat.zero_xor]
  rw [e, sh_xor, sh_xor]
  have f := xor_four (sh (8 * a.length) (0 ^^^ mask ^^^ num a)) (sh (8 * a.length) (0 ^^^ mask ^^^ num b)) (sh (8 * a.length) (0 ^^^ mask ^^^ num c)) mask mask mask
  rw [← f, Nat.xor_self, Nat.zero_xor]

/-- a burst that turns a string into another one of the same length begins within it. -/
theorem burst_in (l m : List UInt8) (hl : m.length = l.length) (pat at_ : Nat) (h0 : pat ≠ 0) (h : num m = num l ^^^ 2 ^ at_ * pat) : at_ ≤ 8 * l.length := by
  have h1 := num_lt l
  have h2 := num_lt m
  rw [hl] at h2
  have h3 : num l ^^^ num m = 2 ^ at_ * pat := by rw [h, ← Nat.xor_assoc, Nat.xor_self, Nat.zero_xor]
  have h4 : num l ^^^ num m < 2 ^ (8 * l.length) := Nat.xor_lt_two_pow h1 h2
  rw [h3] at h4
  have h5 : 2 ^ at_ * 1 ≤ 2 ^ at_ * pat := Nat.mul_le_mul_left _ (by omega)
  rcases Nat.lt_or_ge (8 * l.length) at_ with h6 | h6
  · have := Nat.pow_le_pow_right (n := 2) (by omega) (Nat.le_of_lt h6)
    omega
  · exact h6
end Go.Proofs.Ytjbdfmniiiaakaa.Crc
