/- Plain mathematics of sealed strings and of journal entries as bytes. No Go in sight. -/
import Derived.Test.YtjbdfmniiiaakaaCrc
import Derived.Test.YtjbdfmniiiaakaaBin
namespace Go.Proofs.Ytjbdfmniiiaakaa.Ent
open Bin (Got enc encB dU dB seg)

/-! ### sealed strings -/
def tail4 (c : Nat) : List UInt8 := [UInt8.ofNat (c / 16777216), UInt8.ofNat (c / 65536), UInt8.ofNat (c / 256), UInt8.ofNat c]
def sealed (b : List UInt8) : List UInt8 := b ++ tail4 (Crc.sum b)
theorem tail4_len (c : Nat) : (tail4 c).length = 4 := rfl
theorem sealed_len (b : List UInt8) : (sealed b).length = b.length + 4 := by simp [sealed, tail4_len]

/-- Verify: the byte string, the error. -/
def verify (b : List UInt8) : List UInt8 × Nat :=
  if b.length < 4 then ([], 4)
  else if b.drop (b.length - 4) = tail4 (Crc.sum (b.take (b.length - 4))) then (b.take (b.length - 4), 0) else ([], 38)

theorem verify_sealed (b : List UInt8) : verify (sealed b) = (b, 0) := by
  unfold verify
  rw [sealed_len, if_neg (by omega), show b.length + 4 - 4 = b.length by omega]
  unfold sealed
  rw [List.take_left, List.drop_left, if_pos rfl]

theorem verify_ne (b s : List UInt8) (hs : s.length = 4) (h : s ≠ tail4 (Crc.sum b)) : verify (b ++ s) = ([], 38) := by
  unfold verify
  have hl : (b ++ s).length = b.length + 4 := by simp [hs]
  rw [hl, if_neg (by omega), show b.length + 4 - 4 = b.length by omega]
  rw [List.take_left, List.drop_left, if_neg h]

theorem tail4_num (c : Nat) (h : c < 4294967296) : Crc.num (tail4 c).reverse = c := by
  simp only [tail4, List.reverse_cons, List.reverse_nil, List.nil_append, List.cons_append, Crc.num, UInt8.toNat_ofNat']
  omega

theorem tail4_inj (c d : Nat) (hc : c < 4294967296) (hd : d < 4294967296) (h : tail4 c = tail4 d) : c = d := by
  rw [← tail4_num c hc, ← tail4_num d hd, h]

/-! ### entries -/
structure E where
  k : Int
  t : Int
  s : ByteArray

def E0 : E := ⟨0, 0, ByteArray.empty⟩
def maxMoment : Int := 3155932800
def check (e : E) : Nat := if e.k < 1 ∨ 255 < e.k then 2 else if e.t < 0 ∨ maxMoment < e.t then 10 else if 65536 < e.s.size then 5 else 0
def body (e : E) : List UInt8 := enc e.k.toNat ++ (enc e.t.toNat ++ encB e.s.data.toList)
def encE (e : E) : List UInt8 := sealed (body e)

theorem check_ok {e : E} (h : check e = 0) : 1 ≤ e.k ∧ e.k ≤ 255 ∧ 0 ≤ e.t ∧ e.t ≤ maxMoment ∧ e.s.size ≤ 65536 := by
  unfold check at h
  split at h
  · omega
  · split at h
    · omega
    · split at h <;> omega

/-- Decode, behind its three parts. -/
def fin (b : List UInt8) (a : Nat) (k t : Got Nat) (s : Got (List UInt8)) : Got E :=
  if b.length < s.next + 4 then ⟨E0, 0, 4⟩
  else if seg b s.next (s.next + 4) = tail4 (Crc.sum (seg b a s.next)) then
    (if k.v < 1 ∨ 255 < k.v then ⟨E0, 0, 2⟩
     else if maxMoment < (t.v : Int) then ⟨E0, 0, 10⟩
     else ⟨⟨k.v, t.v, ⟨s.v.toArray⟩⟩, s.next + 4, 0⟩)
  else ⟨E0, 0, 38⟩

def dE (b : List UInt8) (at_ : Int) : Got E :=
  if (dU b at_).e ≠ 0 then ⟨E0, 0, (dU b at_).e⟩
  else if (dU b (dU b at_).next).e ≠ 0 then ⟨E0, 0, (dU b (dU b at_).next).e⟩
  else if (dB b (dU b (dU b at_).next).next 65536).e ≠ 0 then ⟨E0, 0, (dB b (dU b (dU b at_).next).next 65536).e⟩
  else fin b at_.toNat (dU b at_) (dU b (dU b at_).next) (dB b (dU b (dU b at_).next).next 65536)

theorem dE_eq (b : List UInt8) (at_ : Int) (k t : Got Nat) (s : Got (List UInt8)) (hk : dU b at_ = k) (h1 : k.e = 0) (ht : dU b k.next = t) (h2 : t.e = 0) (hs : dB b t.next 65536 = s) (h3 : s.e = 0) :
    dE b at_ = fin b at_.toNat k t s := by
  subst hk ht hs
  unfold dE
  rw [if_neg (by simp [h1]), if_neg (by simp [h2]), if_neg (by simp [h3])]

theorem dE_bad1 (b : List UInt8) (at_ : Int) (h : (dU b at_).e ≠ 0) : dE b at_ = ⟨E0, 0, (dU b at_).e⟩ := by
  unfold dE; rw [if_pos h]
theorem dE_bad2 (b : List UInt8) (at_ : Int) (k : Got Nat) (hk : dU b at_ = k) (h1 : k.e = 0) (h : (dU b k.next).e ≠ 0) : dE b at_ = ⟨E0, 0, (dU b k.next).e⟩ := by
  subst hk; unfold dE; rw [if_neg (by simp [h1]), if_pos h]
theorem dE_bad3 (b : List UInt8) (at_ : Int) (k t : Got Nat) (hk : dU b at_ = k) (h1 : k.e = 0) (ht : dU b k.next = t) (h2 : t.e = 0) (h : (dB b t.next 65536).e ≠ 0) : dE b at_ = ⟨E0, 0, (dB b t.next 65536).e⟩ := by
  subst hk ht; unfold dE; rw [if_neg (by simp [h1]), if_neg (by simp [h2]), if_pos h]

theorem mk_eq (e : E) (h : check e = 0) : (⟨(e.k.toNat : Int), (e.t.toNat : Int), ⟨e.s.data.toList.toArray⟩⟩ : E) = e := by
  obtain ⟨h1, h2, h3, h4, h5⟩ := check_ok h
  obtain ⟨k, t, s⟩ := e
  simp only [E.mk.injEq] at *
  refine ⟨by omega, by omega, ?_⟩
  simp

theorem kt_lt {e : E} (h : check e = 0) : e.k.toNat < 2 ^ 64 ∧ e.t.toNat < 2 ^ 64 ∧ e.s.data.toList.length < 2 ^ 64 ∧ (e.s.data.toList.length : Int) ≤ 65536 := by
  obtain ⟨h1, h2, h3, h4, h5⟩ := check_ok h
  unfold maxMoment at h4
  have : e.s.data.toList.length = e.s.size := by simp
  omega

theorem drop_app {b x r : List UInt8} {a : Nat} (h : b.drop a = x ++ r) (ha : a ≤ b.length) : b.drop (a + x.length) = r ∧ a + x.length ≤ b.length := by
  refine ⟨by rw [← List.drop_drop, h, List.drop_left], ?_⟩
  have := congrArg List.length h
  simp at this
  omega

theorem seg_app {b x r : List UInt8} {a : Nat} (h : b.drop a = x ++ r) : seg b a (a + x.length) = x := by
  unfold seg; rw [h, show a + x.length - a = x.length by omega, List.take_left]

/-- an entry that was encoded is decoded, whatever the four bytes behind it. -/
theorem dE_parts (b : List UInt8) (a : Nat) (e : E) (r : List UInt8) (ha : a ≤ b.length) (h : b.drop a = body e ++ r) (hc : check e = 0) :
    ∃ k t s, dE b a = fin b a k t s ∧ k.v = e.k.toNat ∧ t.v = e.t.toNat ∧ s.v = e.s.data.toList ∧ s.next = a + (body e).length := by
  obtain ⟨l1, l2, l3, l4⟩ := kt_lt hc
  have h' : b.drop a = enc e.k.toNat ++ (enc e.t.toNat ++ (encB e.s.data.toList ++ r)) := by rw [h, body]; simp
  obtain ⟨q1, p1⟩ := drop_app h' ha
  obtain ⟨q2, p2⟩ := drop_app q1 p1
  have e1 := Bin.dU_enc b a _ _ ha h' l1
  have e2 := Bin.dU_enc b _ _ _ p1 q1 l2
  have e3 := Bin.dB_enc b _ _ 65536 _ p2 q2 l3 l4
  refine ⟨_, _, _, dE_eq b a _ _ _ e1 rfl e2 rfl e3 rfl, rfl, rfl, rfl, ?_⟩
  simp [body, Nat.add_assoc]

theorem dE_enc (b : List UInt8) (a : Nat) (e : E) (r : List UInt8) (ha : a ≤ b.length) (h : b.drop a = encE e ++ r) (hc : check e = 0) : dE b a = ⟨e, a + (encE e).length, 0⟩ := by
  have h' : b.drop a = body e ++ (tail4 (Crc.sum (body e)) ++ r) := by rw [h, encE, sealed, List.append_assoc]
  obtain ⟨k, t, s, h1, h2, h3, h4, h5⟩ := dE_parts b a e _ ha h' hc
  obtain ⟨q1, p1⟩ := drop_app h' ha
  obtain ⟨q2, p2⟩ := drop_app q1 p1
  rw [tail4_len] at p2
  obtain ⟨c1, c2, c3, c4, c5⟩ := check_ok hc
  rw [h1]
  unfold fin
  have s1 : seg b (a + (body e).length) (a + (body e).length + 4) = tail4 (Crc.sum (body e)) := seg_app q1
  rw [h5, if_neg (by omega), seg_app h', s1, if_pos rfl, h2, h3, h4, if_neg (by omega), if_neg (by omega), mk_eq e hc]
  simp [encE, sealed_len, Nat.add_assoc]

theorem dE_wrong (b : List UInt8) (a : Nat) (e : E) (s4 r : List UInt8) (ha : a ≤ b.length) (h : b.drop a = body e ++ (s4 ++ r)) (h4 : s4.length = 4) (hne : s4 ≠ tail4 (Crc.sum (body e))) (hc : check e = 0) : dE b a = ⟨E0, 0, 38⟩ := by
  obtain ⟨k, t, s, h1, h2, h3, hh, h5⟩ := dE_parts b a e _ ha h hc
  obtain ⟨q1, p1⟩ := drop_app h ha
  obtain ⟨q2, p2⟩ := drop_app q1 p1
  rw [h4] at p2
  rw [h1]
  unfold fin
  have s1 : seg b (a + (body e).length) (a + (body e).length + 4) = s4 := by rw [← h4]; exact seg_app q1
  rw [h5, if_neg (by omega), seg_app h, s1, if_neg hne]

theorem dE_cut (b : List UInt8) (a : Nat) (e : E) (c : Nat) (ha : a ≤ b.length) (h : b.drop a = (encE e).take c) (hc : check e = 0) (hl : c < (encE e).length) : dE b a = ⟨E0, 0, 4⟩ := by
  obtain ⟨l1, l2, l3, l4⟩ := kt_lt hc
  have h' : b.drop a = (enc e.k.toNat ++ (enc e.t.toNat ++ (encB e.s.data.toList ++ tail4 (Crc.sum (body e))))).take c := by rw [h, encE, sealed, body]; simp
  have hl' : c < (enc e.k.toNat ++ (enc e.t.toNat ++ (encB e.s.data.toList ++ tail4 (Crc.sum (body e))))).length := by
    have : (enc e.k.toNat ++ (enc e.t.toNat ++ (encB e.s.data.toList ++ tail4 (Crc.sum (body e))))).length = (encE e).length := by rw [encE, sealed, body]; simp
    omega
  generalize hS : tail4 (Crc.sum (body e)) = S at h' hl'
  have hS4 : S.length = 4 := by rw [← hS]; rfl
  clear h hl hS
  by_cases c1 : c < (enc e.k.toNat).length
  · rw [List.take_append_of_le_length (by omega)] at h'
    have e1 := Bin.dU_cut b a _ c ha h' l1 c1
    rw [dE_bad1 b a (by rw [e1]; simp), e1]
  · rw [Bin.drop_take_left (by omega)] at h'
    have e1 := Bin.dU_enc b a _ _ ha h' l1
    obtain ⟨q1, p1⟩ := drop_app h' ha
    simp only [List.length_append] at hl'
    generalize hc2 : c - (enc e.k.toNat).length = d at q1
    by_cases c2 : d < (enc e.t.toNat).length
    · rw [List.take_append_of_le_length (by omega)] at q1
      have e2 := Bin.dU_cut b _ _ _ p1 q1 l2 c2
      rw [dE_bad2 b a _ e1 rfl (by simp only []; rw [e2]; simp)]
      simp only []
      rw [e2]
    · rw [Bin.drop_take_left (by omega)] at q1
      have e2 := Bin.dU_enc b _ _ _ p1 q1 l2
      obtain ⟨q2, p2⟩ := drop_app q1 p1
      generalize hc3 : d - (enc e.t.toNat).length = f at q2
      by_cases c3 : f < (encB e.s.data.toList).length
      · rw [List.take_append_of_le_length (by omega)] at q2
        have e3 := Bin.dB_cut b _ _ 65536 _ p2 q2 l3 l4 c3
        rw [dE_bad3 b a _ _ e1 rfl e2 rfl (by simp only []; rw [e3]; simp)]
        simp only []
        rw [e3]
      · rw [Bin.drop_take_left (by omega)] at q2
        have e3 := Bin.dB_enc b _ _ 65536 _ p2 q2 l3 l4
        obtain ⟨q3, p3⟩ := drop_app q2 p2
        rw [dE_eq b a _ _ _ e1 rfl e2 rfl e3 rfl]
        unfold fin
        have := congrArg List.length q3
        simp only [List.length_drop, List.length_take, hS4] at this
        rw [if_pos (by simp only []; omega)]

theorem dE_ok (b : List UInt8) (at_ : Int) (h : (dE b at_).e = 0) :
    0 ≤ at_ ∧ at_.toNat < (dE b at_).next ∧ (dE b at_).next ≤ b.length ∧ check (dE b at_).v = 0 ∧ seg b at_.toNat (dE b at_).next = encE (dE b at_).v := by
  by_cases h1 : (dU b at_).e = 0
  · by_cases h2 : (dU b (dU b at_).next).e = 0
    · by_cases h3 : (dB b (dU b (dU b at_).next).next 65536).e = 0
      · rw [dE_eq b at_ _ _ _ rfl h1 rfl h2 rfl h3] at h ⊢
        obtain ⟨k0, k1, k2, k3, k4, k5⟩ := Bin.dU_ok b at_ h1
        obtain ⟨t0, t1, t2, t3, t4, t5⟩ := Bin.dU_ok b _ h2
        obtain ⟨s0, s1, s2, s3, s4⟩ := Bin.dB_ok b _ _ h3
        generalize dB b (dU b (dU b at_).next).next 65536 = s at *
        generalize dU b (dU b at_).next = t at *
        generalize dU b at_ = k at *
        simp only [Int.toNat_natCast] at t1 t5 s1 s4
        unfold fin at h ⊢
        by_cases c1 : b.length < s.next + 4
        · rw [if_pos c1] at h; simp at h
        · rw [if_neg c1] at h ⊢
          by_cases c2 : seg b s.next (s.next + 4) = tail4 (Crc.sum (seg b at_.toNat s.next))
          · rw [if_pos c2] at h ⊢
            by_cases c3 : k.v < 1 ∨ 255 < k.v
            · rw [if_pos c3] at h; simp at h
            · rw [if_neg c3] at h ⊢
              by_cases c4 : maxMoment < (t.v : Int)
              · rw [if_pos c4] at h; simp at h
              · rw [if_neg c4]
                refine ⟨k0, by simp only []; omega, by simp only []; omega, ?_, ?_⟩
                · unfold check
                  have : (⟨s.v.toArray⟩ : ByteArray).size = s.v.length := by simp [ByteArray.size]
                  simp only [this]
                  rw [if_neg (by omega), if_neg (by omega), if_neg (by omega)]
                · simp only [encE, sealed, body, Int.toNat_natCast]
                  have w1 : seg b at_.toNat s.next = enc k.v ++ (enc t.v ++ encB s.v) := by
                    rw [← k5, ← t5, ← s4, Bin.seg_append b _ _ _ (by omega) (by omega), Bin.seg_append b _ _ _ (by omega) (by omega)]
                  rw [← w1, ← c2, Bin.seg_append b _ _ _ (by omega) (by omega)]
          · rw [if_neg c2] at h; simp at h
      · rw [dE_bad3 b at_ _ _ rfl h1 rfl h2 h3] at h
        exact absurd h h3
    · rw [dE_bad2 b at_ _ rfl h1 h2] at h
      exact absurd h h2
  · rw [dE_bad1 b at_ h1] at h
    exact absurd h h1

theorem encE_pos (e : E) : 4 ≤ (encE e).length := by rw [encE, sealed_len]; omega
end Go.Proofs.Ytjbdfmniiiaakaa.Ent
