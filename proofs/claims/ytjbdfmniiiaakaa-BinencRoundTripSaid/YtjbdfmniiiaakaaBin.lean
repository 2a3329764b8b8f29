/- Plain mathematics of the binary encoding: round trips, uniqueness, cut encodings. No condition but that integers fit their kinds; no Go in sight. -/
namespace Go.Proofs.Ytjbdfmniiiaakaa.Bin
/-- what a decoding function hands back: the value, the index behind it, the error. -/
structure Got (α : Type) where
  v : α
  next : Nat
  e : Nat

/-! ### unsigned integers -/
def encF : Nat → Nat → List UInt8
  | 0, n => [UInt8.ofNat n]
  | k + 1, n => if n < 128 then [UInt8.ofNat n] else UInt8.ofNat (n % 128 + 128) :: encF k (n / 128)
def enc (n : Nat) : List UInt8 := encF 9 n

/-- k bytes are read, 'acc' is what they hold. -/
def decL : Nat → Nat → List UInt8 → Got Nat
  | _, _, [] => ⟨0, 0, 4⟩
  | k, acc, c :: l => if (k = 9 ∧ 1 < c.toNat) ∨ (c.toNat = 0 ∧ 0 < k) then ⟨0, 0, 3⟩
      else if c.toNat < 128 then ⟨acc + 2 ^ (7 * k) * c.toNat, k + 1, 0⟩
      else decL (k + 1) (acc + 2 ^ (7 * k) * (c.toNat % 128)) l

theorem pow7 (k : Nat) : (2 : Nat) ^ (7 * (k + 1)) = 2 ^ (7 * k) * 128 := by
  rw [Nat.mul_add, Nat.pow_add]

theorem ofNat_small {n : Nat} (h : n < 256) : (UInt8.ofNat n).toNat = n := by
  simp [UInt8.toNat_ofNat']; omega

theorem encF_len (k n : Nat) : 1 ≤ (encF k n).length ∧ (encF k n).length ≤ k + 1 := by
  induction k generalizing n with
  | zero => simp [encF]
  | succ k ih =>
    unfold encF
    split
    · simp
    · have := ih (n / 128); simp; omega

theorem enc_len (n : Nat) : 1 ≤ (enc n).length ∧ (enc n).length ≤ 10 := encF_len 9 n

/-- decoding what was encoded. -/
theorem decL_enc (j : Nat) (hj : j ≤ 9) (acc m : Nat) (rest : List UInt8) (hm : m < 2 ^ (64 - 7 * (9 - j))) (h0 : j < 9 → 0 < m) :
    decL (9 - j) acc (encF j m ++ rest) = ⟨acc + 2 ^ (7 * (9 - j)) * m, 9 - j + (encF j m).length, 0⟩ := by
  induction j generalizing acc m with
  | zero =>
    have : m < 2 := by simpa using hm
    have e := ofNat_small (n := m) (by omega)
    simp only [encF, List.cons_append, List.nil_append, decL, e]
    have := h0 (by omega)
    rw [if_neg (by omega), if_pos (by omega)]
    rfl
  | succ j ih =>
    unfold encF
    by_cases hs : m < 128
    · rw [if_pos hs]
      have e := ofNat_small (n := m) (by omega)
      simp only [List.cons_append, List.nil_append, decL, e]
      have hk : 9 - (j + 1) ≠ 9 := by omega
      rw [if_neg (by intro h; rcases h with h | h; · omega
                     · by_cases hj9 : j + 1 < 9
                       · have := h0 hj9; omega
                       · omega), if_pos hs]
      rfl
    · rw [if_neg hs]
      have e := ofNat_small (n := m % 128 + 128) (by omega)
      simp only [List.cons_append, decL, e]
      rw [if_neg (by omega), if_neg (by omega)]
      have hk : 9 - (j + 1) + 1 = 9 - j := by omega
      rw [hk]
      rw [ih (by omega) _ (m / 128)]
      · have e1 : (2 : Nat) ^ (7 * (9 - j)) = 2 ^ (7 * (9 - (j + 1))) * 128 := by rw [← hk, pow7]
        have e2 : (m % 128 + 128) % 128 = m % 128 := by omega
        rw [e1, e2, Nat.mul_assoc, Nat.add_assoc, ← Nat.mul_add]
        have e3 : m % 128 + 128 * (m / 128) = m := by omega
        rw [e3]
        simp only [List.length_cons]
        congr 1
        omega
      · have e1 : (2 : Nat) ^ (64 - 7 * (9 - j)) * 128 = 2 ^ (64 - 7 * (9 - (j + 1))) := by
          rw [show (128 : Nat) = 2 ^ 7 from rfl, ← Nat.pow_add]; congr 1; omega
        omega
      · omega

theorem decL_of_enc (n : Nat) (h : n < 2 ^ 64) (rest : List UInt8) : decL 0 0 (enc n ++ rest) = ⟨n, (enc n).length, 0⟩ := by
  unfold enc
  by_cases h0 : 0 < n
  · have := decL_enc 9 (by omega) 0 n rest (by simpa using h) (by omega)
    simpa using this
  · have : n = 0 := by omega
    subst this
    simp [encF, decL]

/-- a proper beginning of an encoding is cut. -/
theorem decL_cut (j : Nat) (hj : j ≤ 9) (acc m c : Nat) (hm : m < 2 ^ (64 - 7 * (9 - j))) (hc : c < (encF j m).length) :
    decL (9 - j) acc ((encF j m).take c) = ⟨0, 0, 4⟩ := by
  induction j generalizing acc m c with
  | zero =>
    simp [encF] at hc
    subst hc
    simp [decL]
  | succ j ih =>
    unfold encF at hc ⊢
    by_cases hs : m < 128
    · rw [if_pos hs] at hc ⊢
      simp at hc
      subst hc
      simp [decL]
    · rw [if_neg hs] at hc ⊢
      cases c with
      | zero => simp [decL]
      | succ c =>
        have e := ofNat_small (n := m % 128 + 128) (by omega)
        simp only [List.take_succ_cons, decL, e]
        rw [if_neg (by omega), if_neg (by omega)]
        have hk : 9 - (j + 1) + 1 = 9 - j := by omega
        rw [hk]
        refine ih (by omega) _ _ _ ?_ (by simpa using hc)
        have e1 : (2 : Nat) ^ (64 - 7 * (9 - j)) * 128 = 2 ^ (64 - 7 * (9 - (j + 1))) := by
          rw [show (128 : Nat) = 2 ^ 7 from rfl, ← Nat.pow_add]; congr 1; omega
        omega

theorem decL_of_cut (n c : Nat) (h : n < 2 ^ 64) (hc : c < (enc n).length) : decL 0 0 ((enc n).take c) = ⟨0, 0, 4⟩ := by
  have := decL_cut 9 (by omega) 0 n c (by simpa using h) hc
  simpa [enc] using this

/-- what is decoded is an encoding. -/
theorem decL_back (l : List UInt8) (k acc : Nat) (hk : k ≤ 9) (h : (decL k acc l).e = 0) :
    ∃ m, m < 2 ^ (64 - 7 * k) ∧ (0 < k → 0 < m) ∧ (decL k acc l).v = acc + 2 ^ (7 * k) * m ∧ (decL k acc l).next = k + (encF (9 - k) m).length ∧
      l.take (encF (9 - k) m).length = encF (9 - k) m ∧ (encF (9 - k) m).length ≤ l.length := by
  induction l generalizing k acc with
  | nil => simp [decL] at h
  | cons c l ih =>
    unfold decL at h ⊢
    have hc := c.toNat_lt
    by_cases h1 : (k = 9 ∧ 1 < c.toNat) ∨ (c.toNat = 0 ∧ 0 < k)
    · rw [if_pos h1] at h; simp at h
    · rw [if_neg h1] at h ⊢
      by_cases h2 : c.toNat < 128
      · rw [if_pos h2] at h ⊢
        have e : encF (9 - k) c.toNat = [c] := by
          have ec : UInt8.ofNat c.toNat = c := by simp
          rcases Nat.lt_or_ge k 9 with h9 | h9
          · obtain ⟨j, hj⟩ : ∃ j, 9 - k = j + 1 := ⟨8 - k, by omega⟩
            rw [hj, encF, if_pos h2, ec]
          · have : 9 - k = 0 := by omega
            rw [this, encF, ec]
        refine ⟨c.toNat, ?_, by omega, rfl, by rw [e]; rfl, by rw [e]; simp, by rw [e]; simp⟩
        rcases Nat.lt_or_ge k 9 with h9 | h9
        · have : (2 : Nat) ^ 7 ≤ 2 ^ (64 - 7 * k) := Nat.pow_le_pow_right (by omega) (by omega)
          omega
        · have : k = 9 := by omega
          subst this
          simp
          omega
      · rw [if_neg h2] at h ⊢
        have hk9 : k < 9 := by omega
        obtain ⟨m, m1, m2, m3, m4, m5, m6⟩ := ih (k + 1) _ (by omega) h
        have hm := m2 (by omega)
        obtain ⟨j, hj⟩ : ∃ j, 9 - k = j + 1 := ⟨8 - k, by omega⟩
        have hj' : 9 - (k + 1) = j := by omega
        rw [hj'] at m4 m5 m6
        have q1 : (c.toNat % 128 + 128 * m) % 128 = c.toNat % 128 := by omega
        have q2 : (c.toNat % 128 + 128 * m) / 128 = m := by omega
        have q3 : UInt8.ofNat (c.toNat % 128 + 128) = c := by
          rw [show c.toNat % 128 + 128 = c.toNat by omega]; simp
        have e : encF (9 - k) (c.toNat % 128 + 128 * m) = c :: encF j m := by
          rw [hj, encF, if_neg (by omega), q1, q2, q3]
        refine ⟨c.toNat % 128 + 128 * m, ?_, by omega, ?_, ?_, ?_, ?_⟩
        · have e1 : (2 : Nat) ^ (64 - 7 * (k + 1)) * 128 = 2 ^ (64 - 7 * k) := by
            rw [show (128 : Nat) = 2 ^ 7 from rfl, ← Nat.pow_add]; congr 1; omega
          omega
        · rw [m3, pow7, Nat.mul_assoc, Nat.add_assoc, ← Nat.mul_add]
        · rw [m4, e]; simp; omega
        · rw [e]; simp [m5]
        · rw [e]; simp; omega

theorem decL_enc_of (l : List UInt8) (h : (decL 0 0 l).e = 0) :
    (decL 0 0 l).v < 2 ^ 64 ∧ (decL 0 0 l).next = (enc (decL 0 0 l).v).length ∧ l.take (enc (decL 0 0 l).v).length = enc (decL 0 0 l).v ∧ (enc (decL 0 0 l).v).length ≤ l.length := by
  obtain ⟨m, m1, _, m3, m4, m5, m6⟩ := decL_back l 0 0 (by omega) h
  simp at m3 m4 m5 m6 m1
  rw [m3]
  exact ⟨m1, by simpa [enc] using m4, m5, m6⟩

theorem decL_err (l : List UInt8) (k acc : Nat) (h : (decL k acc l).e ≠ 0) : decL k acc l = ⟨0, 0, (decL k acc l).e⟩ := by
  induction l generalizing k acc with
  | nil => rfl
  | cons c l ih =>
    unfold decL at h ⊢
    split
    · rfl
    · rename_i h1
      rw [if_neg h1] at h
      split
      · rename_i h2
        rw [if_pos h2] at h
        simp at h
      · rename_i h2
        rw [if_neg h2] at h
        exact ih _ _ h

/-- Uint. -/
def dU (b : List UInt8) (at_ : Int) : Got Nat :=
  if at_ < 0 ∨ (b.length : Int) < at_ then ⟨0, 0, 2⟩
  else if (decL 0 0 (b.drop at_.toNat)).e = 0 then ⟨(decL 0 0 (b.drop at_.toNat)).v, at_.toNat + (decL 0 0 (b.drop at_.toNat)).next, 0⟩
  else ⟨0, 0, (decL 0 0 (b.drop at_.toNat)).e⟩

/-! ### integers -/
def zig (n : Int) : Nat := if 0 ≤ n then 2 * n.toNat else 2 * (-(n + 1)).toNat + 1
def zag (u : Nat) : Int := if u % 2 = 1 then -((u / 2 : Nat) : Int) - 1 else ((u / 2 : Nat) : Int)
theorem zag_zig (n : Int) : zag (zig n) = n := by unfold zag zig; split <;> split <;> omega
theorem zig_zag (u : Nat) : zig (zag u) = u := by unfold zag zig; split <;> split <;> omega
theorem zig_lt (n : Int) (h1 : -9223372036854775808 ≤ n) (h2 : n ≤ 9223372036854775807) : zig n < 2 ^ 64 := by unfold zig; split <;> omega
theorem zag_bd (u : Nat) (h : u < 2 ^ 64) : -9223372036854775808 ≤ zag u ∧ zag u ≤ 9223372036854775807 := by unfold zag; split <;> omega

def encI (n : Int) : List UInt8 := enc (zig n)
def dI (b : List UInt8) (at_ : Int) : Got Int :=
  if (dU b at_).e = 0 then ⟨zag (dU b at_).v, (dU b at_).next, 0⟩ else ⟨0, 0, (dU b at_).e⟩

/-! ### byte strings -/
def encB (s : List UInt8) : List UInt8 := enc s.length ++ s
def dLen (b : List UInt8) (at_ most : Int) : Got Nat :=
  if (dU b at_).e = 0 then (if most < 0 ∨ most < ((dU b at_).v : Int) then ⟨0, 0, 5⟩ else ⟨(dU b at_).v, (dU b at_).next, 0⟩) else ⟨0, 0, (dU b at_).e⟩
def dB (b : List UInt8) (at_ most : Int) : Got (List UInt8) :=
  if (dLen b at_ most).e = 0 then
    (if b.length - (dLen b at_ most).next < (dLen b at_ most).v then ⟨[], 0, 4⟩
     else ⟨(b.drop (dLen b at_ most).next).take (dLen b at_ most).v, (dLen b at_ most).next + (dLen b at_ most).v, 0⟩)
  else ⟨[], 0, (dLen b at_ most).e⟩

/-! ### bools -/
def encV (v : Bool) : List UInt8 := if v then [1] else [0]
def dV (b : List UInt8) (at_ : Int) : Got Bool :=
  if at_ < 0 ∨ (b.length : Int) < at_ then ⟨false, 0, 2⟩
  else match b.drop at_.toNat with
    | [] => ⟨false, 0, 4⟩
    | c :: _ => if 1 < c.toNat then ⟨false, 0, 3⟩ else ⟨c.toNat == 1, at_.toNat + 1, 0⟩

/-! ### lists -/
def encIs : List Int → List UInt8
  | [] => []
  | n :: l => encI n ++ encIs l
def encL (l : List Int) : List UInt8 := enc l.length ++ encIs l
/-- n integers from an index on. -/
def dIs (b : List UInt8) : Nat → Nat → Got (List Int)
  | 0, at_ => ⟨[], at_, 0⟩
  | n + 1, at_ => if (dI b at_).e = 0 then
      (if (dIs b n (dI b at_).next).e = 0 then ⟨(dI b at_).v :: (dIs b n (dI b at_).next).v, (dIs b n (dI b at_).next).next, 0⟩ else ⟨[], 0, (dIs b n (dI b at_).next).e⟩)
      else ⟨[], 0, (dI b at_).e⟩
def dL (b : List UInt8) (at_ most : Int) : Got (List Int) :=
  if (dLen b at_ most).e = 0 then dIs b (dLen b at_ most).v (dLen b at_ most).next else ⟨[], 0, (dLen b at_ most).e⟩

/-! ### laws -/
def seg (b : List UInt8) (i j : Nat) : List UInt8 := (b.drop i).take (j - i)
theorem seg_len (b : List UInt8) (i j : Nat) (h1 : i ≤ j) (h2 : j ≤ b.length) : (seg b i j).length = j - i := by
  simp [seg]; omega
theorem seg_append (b : List UInt8) (i j k : Nat) (h1 : i ≤ j) (h2 : j ≤ k) : seg b i j ++ seg b j k = seg b i k := by
  unfold seg
  have e : b.drop j = (b.drop i).drop (j - i) := by rw [List.drop_drop]; congr 1; omega
  rw [e, ← List.take_add]; congr 1; omega
theorem drop_seg (b : List UInt8) (i j : Nat) (h1 : i ≤ j) : b.drop i = seg b i j ++ b.drop j := by
  unfold seg
  have e : b.drop j = (b.drop i).drop (j - i) := by rw [List.drop_drop]; congr 1; omega
  rw [e, List.take_append_drop]

theorem dU_ok (b : List UInt8) (at_ : Int) (h : (dU b at_).e = 0) :
    0 ≤ at_ ∧ at_.toNat < (dU b at_).next ∧ (dU b at_).next ≤ b.length ∧ (dU b at_).v < 2 ^ 64 ∧ (dU b at_).next = at_.toNat + (enc (dU b at_).v).length ∧ seg b at_.toNat (dU b at_).next = enc (dU b at_).v := by
  unfold dU at h ⊢
  split at h
  · simp at h
  · rename_i h1
    rw [if_neg h1]
    split at h
    · rename_i h2
      rw [if_pos h2]
      obtain ⟨h3, h4, h5, h6⟩ := decL_enc_of _ h2
      have h7 := enc_len (decL 0 0 (b.drop at_.toNat)).v
      simp only [List.length_drop] at h6
      refine ⟨by omega, by simp only []; omega, by simp only []; omega, h3, by simp only []; omega, ?_⟩
      simp only [seg]
      rw [show at_.toNat + (decL 0 0 (List.drop at_.toNat b)).next - at_.toNat = (decL 0 0 (List.drop at_.toNat b)).next by omega, h4, h5]
    · rename_i h2
      exact absurd h h2

theorem dU_bad (b : List UInt8) (at_ : Int) (h : (dU b at_).e ≠ 0) : dU b at_ = ⟨0, 0, (dU b at_).e⟩ := by
  unfold dU at h ⊢
  split
  · rfl
  · rename_i h1
    rw [if_neg h1] at h
    split
    · rename_i h2
      rw [if_pos h2] at h
      exact absurd rfl h
    · rfl

theorem dU_enc (b : List UInt8) (a n : Nat) (r : List UInt8) (ha : a ≤ b.length) (h : b.drop a = enc n ++ r) (hn : n < 2 ^ 64) : dU b a = ⟨n, a + (enc n).length, 0⟩ := by
  unfold dU
  rw [if_neg (by omega), Int.toNat_natCast, h, decL_of_enc n hn]
  simp

theorem dU_cut (b : List UInt8) (a n c : Nat) (ha : a ≤ b.length) (h : b.drop a = (enc n).take c) (hn : n < 2 ^ 64) (hc : c < (enc n).length) : dU b a = ⟨0, 0, 4⟩ := by
  unfold dU
  rw [if_neg (by omega), Int.toNat_natCast, h, decL_of_cut n c hn hc]
  simp

/-- integers that fit. -/
def fit (n : Int) : Prop := -9223372036854775808 ≤ n ∧ n ≤ 9223372036854775807

theorem dI_ok (b : List UInt8) (at_ : Int) (h : (dI b at_).e = 0) :
    0 ≤ at_ ∧ at_.toNat < (dI b at_).next ∧ (dI b at_).next ≤ b.length ∧ fit (dI b at_).v ∧ seg b at_.toNat (dI b at_).next = encI (dI b at_).v := by
  unfold dI at h ⊢
  split at h
  · rename_i h1
    rw [if_pos h1]
    obtain ⟨h2, h3, h4, h5, h6, h7⟩ := dU_ok b at_ h1
    exact ⟨h2, h3, h4, zag_bd _ h5, by simp only [encI, zig_zag]; exact h7⟩
  · rename_i h1
    exact absurd h h1

theorem dI_bad (b : List UInt8) (at_ : Int) (h : (dI b at_).e ≠ 0) : dI b at_ = ⟨0, 0, (dI b at_).e⟩ := by
  unfold dI at h ⊢
  split
  · rename_i h1
    rw [if_pos h1] at h
    exact absurd rfl h
  · rfl

theorem dI_enc (b : List UInt8) (a : Nat) (n : Int) (r : List UInt8) (ha : a ≤ b.length) (h : b.drop a = encI n ++ r) (hn : fit n) : dI b a = ⟨n, a + (encI n).length, 0⟩ := by
  unfold dI
  rw [dU_enc b a (zig n) r ha h (zig_lt n hn.1 hn.2)]
  simp [zag_zig, encI]

theorem dI_cut (b : List UInt8) (a : Nat) (n : Int) (c : Nat) (ha : a ≤ b.length) (h : b.drop a = (encI n).take c) (hn : fit n) (hc : c < (encI n).length) : dI b a = ⟨0, 0, 4⟩ := by
  unfold dI
  rw [dU_cut b a (zig n) c ha h (zig_lt n hn.1 hn.2) hc]
  simp

theorem dLen_ok (b : List UInt8) (at_ most : Int) (h : (dLen b at_ most).e = 0) :
    0 ≤ at_ ∧ at_.toNat < (dLen b at_ most).next ∧ (dLen b at_ most).next ≤ b.length ∧ (dLen b at_ most).v < 2 ^ 64 ∧ ((dLen b at_ most).v : Int) ≤ most ∧ seg b at_.toNat (dLen b at_ most).next = enc (dLen b at_ most).v := by
  unfold dLen at h ⊢
  split at h
  · rename_i h1
    rw [if_pos h1]
    obtain ⟨h2, h3, h4, h5, h6, h7⟩ := dU_ok b at_ h1
    split at h
    · simp at h
    · rename_i h8
      rw [if_neg h8]
      exact ⟨h2, h3, h4, h5, by simp only []; omega, h7⟩
  · rename_i h1
    exact absurd h h1

theorem dLen_enc (b : List UInt8) (a n : Nat) (most : Int) (r : List UInt8) (ha : a ≤ b.length) (h : b.drop a = enc n ++ r) (hn : n < 2 ^ 64) (hm : (n : Int) ≤ most) : dLen b a most = ⟨n, a + (enc n).length, 0⟩ := by
  unfold dLen
  rw [dU_enc b a n r ha h hn]
  simp only [if_true]
  rw [if_neg (by omega)]

theorem dB_ok (b : List UInt8) (at_ most : Int) (h : (dB b at_ most).e = 0) :
    0 ≤ at_ ∧ at_.toNat < (dB b at_ most).next ∧ (dB b at_ most).next ≤ b.length ∧ ((dB b at_ most).v.length : Int) ≤ most ∧ seg b at_.toNat (dB b at_ most).next = encB (dB b at_ most).v := by
  unfold dB at h ⊢
  split at h
  · rename_i h1
    rw [if_pos h1]
    obtain ⟨h2, h3, h4, h5, h6, h7⟩ := dLen_ok b at_ most h1
    split at h
    · simp at h
    · rename_i h8
      rw [if_neg h8]
      have hl : ((b.drop (dLen b at_ most).next).take (dLen b at_ most).v).length = (dLen b at_ most).v := by simp; omega
      refine ⟨h2, by simp only []; omega, by simp only []; omega, by simp only [hl]; exact h6, ?_⟩
      simp only []
      rw [encB, hl, ← h7, ← seg_append b at_.toNat (dLen b at_ most).next _ (by omega) (by omega)]
      congr 1
      unfold seg
      congr 1
      omega
  · rename_i h1
    exact absurd h h1

theorem dB_enc (b : List UInt8) (a : Nat) (s : List UInt8) (most : Int) (r : List UInt8) (ha : a ≤ b.length) (h : b.drop a = encB s ++ r) (hn : s.length < 2 ^ 64) (hm : (s.length : Int) ≤ most) : dB b a most = ⟨s, a + (encB s).length, 0⟩ := by
  unfold dB
  have h' : b.drop a = enc s.length ++ (s ++ r) := by rw [h, encB, List.append_assoc]
  rw [dLen_enc b a s.length most _ ha h' hn hm]
  have h2 : b.drop (a + (enc s.length).length) = s ++ r := by rw [← List.drop_drop, h', List.drop_left]
  have hl := congrArg List.length h2
  simp only [List.length_drop, List.length_append] at hl
  simp only [if_true]
  rw [if_neg (by omega), h2, List.take_left]
  simp [encB]; omega

theorem drop_take_left {a b : List UInt8} {c : Nat} (h : a.length ≤ c) : (a ++ b).take c = a ++ b.take (c - a.length) := by
  rw [List.take_append, List.take_of_length_le h]

theorem dB_cut (b : List UInt8) (a : Nat) (s : List UInt8) (most : Int) (c : Nat) (ha : a ≤ b.length) (h : b.drop a = (encB s).take c) (hn : s.length < 2 ^ 64) (hm : (s.length : Int) ≤ most) (hc : c < (encB s).length) : dB b a most = ⟨[], 0, 4⟩ := by
  unfold dB
  by_cases hl : c < (enc s.length).length
  · have h' : b.drop a = (enc s.length).take c := by rw [h, encB, List.take_append_of_le_length (by omega)]
    unfold dLen
    rw [dU_cut b a _ c ha h' hn hl]
    simp
  · have h' : b.drop a = enc s.length ++ s.take (c - (enc s.length).length) := by rw [h, encB, drop_take_left (by omega)]
    rw [dLen_enc b a s.length most _ ha h' hn hm]
    have h2 : b.drop (a + (enc s.length).length) = s.take (c - (enc s.length).length) := by rw [← List.drop_drop, h', List.drop_left]
    have hl := congrArg List.length h2
    simp only [List.length_drop, List.length_take, encB, List.length_append] at hl hc
    simp only [if_true]
    rw [if_pos (by omega)]

theorem dIs_ok (b : List UInt8) (n a : Nat) (ha : a ≤ b.length) (h : (dIs b n a).e = 0) :
    a ≤ (dIs b n a).next ∧ (dIs b n a).next ≤ b.length ∧ (dIs b n a).v.length = n ∧ (∀ x ∈ (dIs b n a).v, fit x) ∧ seg b a (dIs b n a).next = encIs (dIs b n a).v := by
  induction n generalizing a with
  | zero => simp [dIs, seg, encIs, ha]
  | succ n ih =>
    unfold dIs at h ⊢
    split at h
    · rename_i h1
      rw [if_pos h1]
      obtain ⟨_, h3, h4, h5, h6⟩ := dI_ok b a h1
      simp only [Int.toNat_natCast] at h3 h6
      split at h
      · rename_i h2
        rw [if_pos h2]
        obtain ⟨i1, i2, i3, i4, i5⟩ := ih _ h4 h2
        refine ⟨by simp only []; omega, i2, by simp [i3], ?_, ?_⟩
        · intro x hx
          simp only [List.mem_cons] at hx
          rcases hx with rfl | hx
          · exact h5
          · exact i4 x hx
        · simp only [encIs]
          rw [← h6, ← i5, seg_append b _ _ _ (by omega) i1]
      · rename_i h2
        exact absurd h h2
    · rename_i h1
      exact absurd h h1

theorem dIs_enc (b : List UInt8) (l : List Int) (a : Nat) (r : List UInt8) (ha : a ≤ b.length) (h : b.drop a = encIs l ++ r) (hl : ∀ x ∈ l, fit x) : dIs b l.length a = ⟨l, a + (encIs l).length, 0⟩ := by
  induction l generalizing a with
  | nil => simp [dIs, encIs]
  | cons n l ih =>
    simp only [encIs, List.append_assoc] at h
    have h1 := dI_enc b a n _ ha h (hl n (by simp))
    have h2 : b.drop (a + (encI n).length) = encIs l ++ r := by rw [← List.drop_drop, h, List.drop_left]
    have h3 := congrArg List.length h
    simp only [List.length_drop, List.length_append] at h3
    have h4 := ih (a + (encI n).length) (by omega) h2 (fun x hx => hl x (by simp [hx]))
    simp only [List.length_cons, dIs, h1, h4, encIs, if_true, List.length_append, Nat.add_assoc]

theorem dIs_cut (b : List UInt8) (l : List Int) (a c : Nat) (ha : a ≤ b.length) (h : b.drop a = (encIs l).take c) (hl : ∀ x ∈ l, fit x) (hc : c < (encIs l).length) : dIs b l.length a = ⟨[], 0, 4⟩ := by
  induction l generalizing a c with
  | nil => simp [encIs] at hc
  | cons n l ih =>
    simp only [encIs] at h hc
    by_cases hn : c < (encI n).length
    · rw [List.take_append_of_le_length (by omega)] at h
      have h1 := dI_cut b a n c ha h (hl n (by simp)) hn
      simp [dIs, h1]
    · rw [drop_take_left (by omega)] at h
      have h1 := dI_enc b a n _ ha h (hl n (by simp))
      have h2 : b.drop (a + (encI n).length) = (encIs l).take (c - (encI n).length) := by rw [← List.drop_drop, h, List.drop_left]
      have h3 := congrArg List.length h
      simp only [List.length_drop, List.length_append, List.length_take] at h3 hc
      have h4 := ih (a + (encI n).length) _ (by omega) h2 (fun x hx => hl x (by simp [hx])) (by omega)
      simp [dIs, h1, h4]

theorem dL_ok (b : List UInt8) (at_ most : Int) (h : (dL b at_ most).e = 0) :
    0 ≤ at_ ∧ at_.toNat ≤ (dL b at_ most).next ∧ (dL b at_ most).next ≤ b.length ∧ seg b at_.toNat (dL b at_ most).next = encL (dL b at_ most).v := by
  unfold dL at h ⊢
  split at h
  · rename_i h1
    rw [if_pos h1]
    obtain ⟨h2, h3, h4, h5, h6, h7⟩ := dLen_ok b at_ most h1
    obtain ⟨i1, i2, i3, i4, i5⟩ := dIs_ok b _ _ h4 h
    refine ⟨h2, by omega, i2, ?_⟩
    rw [encL, i3, ← h7, ← i5, seg_append b _ _ _ (by omega) i1]
  · rename_i h1
    exact absurd h h1

theorem dL_enc (b : List UInt8) (l : List Int) (a : Nat) (most : Int) (r : List UInt8) (ha : a ≤ b.length) (h : b.drop a = encL l ++ r) (hl : ∀ x ∈ l, fit x) (hn : l.length < 2 ^ 64) (hm : (l.length : Int) ≤ most) :
    dL b a most = ⟨l, a + (encL l).length, 0⟩ := by
  unfold dL
  have h' : b.drop a = enc l.length ++ (encIs l ++ r) := by rw [h, encL, List.append_assoc]
  rw [dLen_enc b a l.length most _ ha h' hn hm]
  have h2 : b.drop (a + (enc l.length).length) = encIs l ++ r := by rw [← List.drop_drop, h', List.drop_left]
  have hlen := congrArg List.length h'
  simp only [List.length_drop, List.length_append] at hlen
  simp only [if_true]
  rw [dIs_enc b l _ r (by omega) h2 hl]
  simp [encL, Nat.add_assoc]

theorem dL_cut (b : List UInt8) (l : List Int) (a c : Nat) (most : Int) (ha : a ≤ b.length) (h : b.drop a = (encL l).take c) (hl : ∀ x ∈ l, fit x) (hn : l.length < 2 ^ 64) (hm : (l.length : Int) ≤ most) (hc : c < (encL l).length) :
    dL b a most = ⟨[], 0, 4⟩ := by
  unfold dL
  by_cases hq : c < (enc l.length).length
  · have h' : b.drop a = (enc l.length).take c := by rw [h, encL, List.take_append_of_le_length (by omega)]
    unfold dLen
    rw [dU_cut b a _ c ha h' hn hq]
    simp
  · have h' : b.drop a = enc l.length ++ (encIs l).take (c - (enc l.length).length) := by rw [h, encL, drop_take_left (by omega)]
    rw [dLen_enc b a l.length most _ ha h' hn hm]
    have h2 : b.drop (a + (enc l.length).length) = (encIs l).take (c - (enc l.length).length) := by rw [← List.drop_drop, h', List.drop_left]
    have hlen := congrArg List.length h'
    simp only [List.length_drop, List.length_append] at hlen
    simp only [encL, List.length_append] at hc
    simp only [if_true]
    exact dIs_cut b l _ _ (by omega) h2 hl (by omega)

theorem dV_enc (b : List UInt8) (a : Nat) (v : Bool) (r : List UInt8) (ha : a ≤ b.length) (h : b.drop a = encV v ++ r) : dV b a = ⟨v, a + 1, 0⟩ := by
  unfold dV
  rw [if_neg (by omega), Int.toNat_natCast, h]
  cases v <;> simp [encV]
end Go.Proofs.Ytjbdfmniiiaakaa.Bin
