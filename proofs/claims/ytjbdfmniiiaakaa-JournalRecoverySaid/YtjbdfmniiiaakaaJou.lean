/- Plain mathematics of journals: their bytes and their recovery. No Go in sight. -/
import Derived.Test.YtjbdfmniiiaakaaEnt
namespace Go.Proofs.Ytjbdfmniiiaakaa.Jou
open Bin (Got seg)
open Ent (E E0 check encE dE)

/-- the error of an entry behind others. -/
def err (l : List E) (e : E) : Nat :=
  if check e ≠ 0 then check e
  else if (match l.getLast? with | none => false | some p => decide (e.t < p.t)) = true then 8
  else if 4096 ≤ l.length then 5 else 0

def encJ : List E → List UInt8
  | [] => []
  | e :: l => encE e ++ encJ l

theorem encJ_append (l m : List E) : encJ (l ++ m) = encJ l ++ encJ m := by
  induction l with
  | nil => rfl
  | cons e l ih => simp [encJ, ih]

/-- a journal: each entry has no error behind those before it. -/
def Ok : List E → List E → Prop
  | _, [] => True
  | p, e :: l => err p e = 0 ∧ Ok (p ++ [e]) l

theorem Ok_append (p l m : List E) : Ok p (l ++ m) ↔ Ok p l ∧ Ok (p ++ l) m := by
  induction l generalizing p with
  | nil => simp [Ok]
  | cons e l ih => simp only [List.cons_append, Ok]; rw [ih]; simp [and_assoc]

theorem err_check {l : List E} {e : E} (h : err l e = 0) : check e = 0 := by
  unfold err at h
  split at h
  · exact h
  · omega

/-- what a journal keeps of what is appended. -/
def keep (p : List E) : List E → List E
  | [] => p
  | e :: l => if err p e = 0 then keep (p ++ [e]) l else keep p l

theorem Ok_snoc {p : List E} {e : E} (hp : Ok [] p) (h : err p e = 0) : Ok [] (p ++ [e]) := by
  rw [Ok_append]; exact ⟨hp, by simpa [Ok] using h⟩

theorem keep_ok (l p : List E) (hp : Ok [] p) : Ok [] (keep p l) := by
  induction l generalizing p with
  | nil => exact hp
  | cons e l ih =>
    unfold keep
    split
    · rename_i h
      exact ih _ (Ok_snoc hp h)
    · exact ih _ hp

theorem keep_of_ok (l p : List E) (h : Ok p l) : keep p l = p ++ l := by
  induction l generalizing p with
  | nil => simp [keep]
  | cons e l ih =>
    unfold keep
    rw [if_pos h.1, ih _ h.2]
    simp

theorem keep_len (l p : List E) : (keep p l).length ≤ p.length + l.length := by
  induction l generalizing p with
  | nil => simp [keep]
  | cons e l ih =>
    unfold keep
    split
    · have := ih (p ++ [e]); simp at this ⊢; omega
    · have := ih p; simp; omega

theorem keep_mem (l p : List E) (x : E) (h : x ∈ keep p l) : x ∈ p ∨ x ∈ l := by
  induction l generalizing p with
  | nil => exact .inl h
  | cons e l ih =>
    unfold keep at h
    split at h
    · rcases ih _ h with h | h
      · rw [List.mem_append] at h
        rcases h with h | h
        · exact .inl h
        · exact .inr (by simp at h; simp [h])
      · exact .inr (by simp [h])
    · rcases ih _ h with h | h
      · exact .inl h
      · exact .inr (by simp [h])

theorem keep_append (l m p : List E) : keep p (l ++ m) = keep (keep p l) m := by
  induction l generalizing p with
  | nil => rfl
  | cons e l ih =>
    simp only [List.cons_append, keep]
    split <;> exact ih _

/-- Recover, from index a on, p already recovered: the entries, the number of bytes, the reason. -/
def recF : Nat → List UInt8 → List E → Nat → List E × Nat × Nat
  | 0, _, p, a => (p, a, 0)
  | n + 1, b, p, a =>
    if a < b.length then
      (if (dE b a).e ≠ 0 then (p, a, (dE b a).e)
       else if err p (dE b a).v ≠ 0 then (p, a, err p (dE b a).v)
       else recF n b (p ++ [(dE b a).v]) (dE b a).next)
    else (p, a, 0)
def recover (b : List UInt8) : List E × Nat × Nat := recF (b.length + 1) b [] 0

theorem recF_stop (n : Nat) (b : List UInt8) (p : List E) (a : Nat) (h : b.length ≤ a) : recF (n + 1) b p a = (p, a, 0) := by
  unfold recF; rw [if_neg (by omega)]
theorem recF_dec (n : Nat) (b : List UInt8) (p : List E) (a : Nat) (h : a < b.length) (h2 : (dE b a).e ≠ 0) : recF (n + 1) b p a = (p, a, (dE b a).e) := by
  unfold recF; rw [if_pos h, if_pos h2]
theorem recF_err (n : Nat) (b : List UInt8) (p : List E) (a : Nat) (h : a < b.length) (h2 : (dE b a).e = 0) (h3 : err p (dE b a).v ≠ 0) : recF (n + 1) b p a = (p, a, err p (dE b a).v) := by
  unfold recF; rw [if_pos h, if_neg (by simp [h2]), if_pos h3]
theorem recF_go (n : Nat) (b : List UInt8) (p : List E) (a : Nat) (h : a < b.length) (h2 : (dE b a).e = 0) (h3 : err p (dE b a).v = 0) : recF (n + 1) b p a = recF n b (p ++ [(dE b a).v]) (dE b a).next := by
  conv => lhs; unfold recF
  rw [if_pos h, if_neg (by simp [h2]), if_neg (by simp [h3])]

/-- more rounds than bytes change nothing. -/
theorem recF_more (n m : Nat) (b : List UInt8) (p : List E) (a : Nat) (hn : b.length < n + a) (hm : b.length < m + a) : recF n b p a = recF m b p a := by
  induction n generalizing m p a with
  | zero =>
    cases m with
    | zero => rfl
    | succ m => rw [recF_stop m b p a (by omega)]; rfl
  | succ n ih =>
    by_cases h1 : a < b.length
    · obtain ⟨m, rfl⟩ : ∃ k, m = k + 1 := ⟨m - 1, by omega⟩
      by_cases h2 : (dE b a).e = 0
      · by_cases h3 : err p (dE b a).v = 0
        · obtain ⟨_, d2, d3, _⟩ := Ent.dE_ok b a h2
          simp only [Int.toNat_natCast] at d2
          rw [recF_go n b p a h1 h2 h3, recF_go m b p a h1 h2 h3]
          exact ih m _ _ (by omega) (by omega)
        · rw [recF_err n b p a h1 h2 h3, recF_err m b p a h1 h2 h3]
      · rw [recF_dec n b p a h1 h2, recF_dec m b p a h1 h2]
    · rw [recF_stop n b p a (by omega)]
      cases m with
      | zero => rfl
      | succ m => rw [recF_stop m b p a (by omega)]

/-- what is recovered. -/
theorem recF_back (n : Nat) (b : List UInt8) (p : List E) (a : Nat) (hn : b.length < n + a) (ha : a ≤ b.length) (hp : Ok [] p) :
    ∃ l, (recF n b p a).1 = p ++ l ∧ Ok [] (p ++ l) ∧ a ≤ (recF n b p a).2.1 ∧ (recF n b p a).2.1 ≤ b.length ∧ seg b a (recF n b p a).2.1 = encJ l ∧
      ((recF n b p a).2.2 = 0 ↔ (recF n b p a).2.1 = b.length) := by
  induction n generalizing p a with
  | zero => omega
  | succ n ih =>
    by_cases h1 : a < b.length
    · by_cases h2 : (dE b a).e = 0
      · by_cases h3 : err p (dE b a).v = 0
        · rw [recF_go n b p a h1 h2 h3]
          obtain ⟨_, d2, d3, d4, d5⟩ := Ent.dE_ok b a h2
          simp only [Int.toNat_natCast] at d2 d5
          obtain ⟨l, l1, l2, l3, l4, l5, l6⟩ := ih (p ++ [(dE b a).v]) (dE b a).next (by omega) d3 (Ok_snoc hp h3)
          refine ⟨(dE b a).v :: l, by rw [l1]; simp, by simpa using l2, by omega, l4, ?_, l6⟩
          rw [encJ, ← d5, ← l5, Bin.seg_append b _ _ _ (by omega) l3]
        · rw [recF_err n b p a h1 h2 h3]
          exact ⟨[], by simp, by simpa using hp, Nat.le_refl _, ha, by simp [seg, encJ], by simp only []; constructor <;> intro h <;> omega⟩
      · rw [recF_dec n b p a h1 h2]
        exact ⟨[], by simp, by simpa using hp, Nat.le_refl _, ha, by simp [seg, encJ], by simp only []; constructor <;> intro h <;> omega⟩
    · rw [recF_stop n b p a (by omega)]
      exact ⟨[], by simp, by simpa using hp, Nat.le_refl _, ha, by simp [seg, encJ], by show (0 : Nat) = 0 ↔ a = b.length; constructor <;> intro _ <;> omega⟩

theorem encJ_pos (l : List E) : l.length ≤ (encJ l).length := by
  induction l with
  | nil => simp [encJ]
  | cons e l ih => have := Ent.encE_pos e; simp [encJ]; omega

/-- the encoding of a journal is recovered. -/
theorem recF_enc (l : List E) (n : Nat) (b : List UInt8) (p : List E) (a : Nat) (hn : b.length < n + a) (ha : a ≤ b.length) (h : b.drop a = encJ l) (hl : Ok p l) :
    recF n b p a = (p ++ l, b.length, 0) := by
  induction l generalizing n p a with
  | nil =>
    simp only [encJ] at h
    have := congrArg List.length h
    simp at this
    obtain ⟨m, rfl⟩ : ∃ m, n = m + 1 := ⟨n - 1, by omega⟩
    rw [recF_stop m b p a (by omega)]
    simp; omega
  | cons e l ih =>
    simp only [encJ] at h
    obtain ⟨q1, p1⟩ := Ent.drop_app h ha
    have hd := Ent.dE_enc b a e _ ha h (err_check hl.1)
    have := Ent.encE_pos e
    obtain ⟨m, rfl⟩ : ∃ m, n = m + 1 := ⟨n - 1, by omega⟩
    rw [recF_go m b p a (by omega) (by rw [hd]) (by rw [hd]; exact hl.1), hd]
    simp only []
    rw [ih m (p ++ [e]) _ (by omega) p1 q1 hl.2]
    simp

theorem recover_enc (l : List E) (hl : Ok [] l) : recover (encJ l) = (l, (encJ l).length, 0) := by
  unfold recover
  rw [recF_enc l _ _ [] 0 (by omega) (by omega) (by simp) hl]
  simp

theorem recover_back (b : List UInt8) :
    Ok [] (recover b).1 ∧ (recover b).2.1 ≤ b.length ∧ b.take (recover b).2.1 = encJ (recover b).1 ∧ ((recover b).2.2 = 0 ↔ (recover b).2.1 = b.length) := by
  obtain ⟨l, l1, l2, l3, l4, l5, l6⟩ := recF_back (b.length + 1) b [] 0 (by omega) (by omega) (by simp [Ok])
  unfold recover
  simp only [List.nil_append] at l1 l2
  rw [l1]
  exact ⟨l2, l4, by simpa [seg] using l5, l6⟩

theorem recover_take (b : List UInt8) : recover (b.take (recover b).2.1) = ((recover b).1, (recover b).2.1, 0) := by
  obtain ⟨h1, h2, h3, h4⟩ := recover_back b
  have hl : (encJ (recover b).1).length = (recover b).2.1 := by rw [← h3]; simp; omega
  rw [h3, recover_enc _ h1, hl]

/-- a beginning of a journal's bytes. -/
theorem recF_cut (l : List E) (n c : Nat) (b : List UInt8) (p : List E) (a : Nat) (hn : b.length < n + a) (ha : a ≤ b.length) (h : b.drop a = (encJ l).take c) (hc : c ≤ (encJ l).length) (hl : Ok p l) :
    ∃ m, m ≤ l.length ∧ recF n b p a = (p ++ l.take m, a + (encJ (l.take m)).length, if (encJ (l.take m)).length = c then 0 else 4) ∧ (encJ (l.take m)).length ≤ c ∧
      (m < l.length → c < (encJ (l.take (m + 1))).length) ∧ (m = l.length → (encJ (l.take m)).length = c) := by
  induction l generalizing n p a c with
  | nil =>
    simp only [encJ, List.length_nil, Nat.le_zero] at hc
    subst hc
    have := congrArg List.length h
    simp at this
    obtain ⟨m, rfl⟩ : ∃ m, n = m + 1 := ⟨n - 1, by omega⟩
    refine ⟨0, by simp, ?_, by simp [encJ], by simp, by simp [encJ]⟩
    rw [recF_stop m b p a (by omega)]
    simp [encJ]
  | cons e l ih =>
    have hpos := Ent.encE_pos e
    have hlen := congrArg List.length h
    simp only [List.length_drop, List.length_take, encJ, List.length_append] at hlen
    by_cases h0 : c = 0
    · subst h0
      simp only [Nat.zero_min] at hlen
      obtain ⟨m, rfl⟩ : ∃ m, n = m + 1 := ⟨n - 1, by omega⟩
      refine ⟨0, by simp, ?_, by simp [encJ], by simp [encJ]; omega, by simp⟩
      rw [recF_stop m b p a (by omega)]
      simp [encJ]
    · obtain ⟨m, rfl⟩ : ∃ m, n = m + 1 := ⟨n - 1, by omega⟩
      simp only [encJ] at h hc
      by_cases h1 : c < (encE e).length
      · rw [List.take_append_of_le_length (by omega)] at h
        have hd := Ent.dE_cut b a e c ha h (err_check hl.1) h1
        refine ⟨0, by simp, ?_, by simp [encJ], by simp [encJ]; omega, by simp⟩
        rw [recF_dec m b p a (by omega) (by rw [hd]; simp), hd]
        simp [encJ, Ne.symm h0]
      · rw [Bin.drop_take_left (by omega)] at h
        obtain ⟨q1, p1⟩ := Ent.drop_app h ha
        have hd := Ent.dE_enc b a e _ ha h (err_check hl.1)
        simp only [List.length_append] at hc
        obtain ⟨k, k1, k2, k3, k4, k5⟩ := ih m (c - (encE e).length) (p ++ [e]) _ (by omega) p1 q1 (by omega) hl.2
        refine ⟨k + 1, by simp; omega, ?_, ?_, ?_, ?_⟩
        · rw [recF_go m b p a (by omega) (by rw [hd]) (by rw [hd]; exact hl.1), hd]
          simp only []
          rw [k2]
          simp only [List.take_succ_cons, encJ, List.length_append, List.append_assoc, List.cons_append, List.nil_append, Nat.add_assoc, Prod.mk.injEq, true_and]
          by_cases hq : (encJ (List.take k l)).length = c - (encE e).length
          · rw [if_pos hq, if_pos (by omega)]
          · rw [if_neg hq, if_neg (by omega)]
        · simp only [List.take_succ_cons, encJ, List.length_append]; omega
        · intro hk
          have := k4 (by simpa using hk)
          simp only [List.take_succ_cons, encJ, List.length_append] at this ⊢
          omega
        · intro hk
          have := k5 (by simpa using hk)
          simp only [List.take_succ_cons, encJ, List.length_append]
          omega

theorem recover_cut (l : List E) (c : Nat) (hc : c ≤ (encJ l).length) (hl : Ok [] l) :
    ∃ m, m ≤ l.length ∧ recover ((encJ l).take c) = (l.take m, (encJ (l.take m)).length, if (encJ (l.take m)).length = c then 0 else 4) ∧ (encJ (l.take m)).length ≤ c ∧
      (m < l.length → c < (encJ (l.take (m + 1))).length) ∧ (m = l.length → (encJ (l.take m)).length = c) := by
  unfold recover
  obtain ⟨m, h1, h2, h3⟩ := recF_cut l (((encJ l).take c).length + 1) c ((encJ l).take c) [] 0 (by omega) (by omega) (by simp) hc hl
  exact ⟨m, h1, by simpa using h2, h3⟩

theorem Ok_take (l : List E) (m : Nat) (h : Ok [] l) : Ok [] (l.take m) := by
  have := (Ok_append [] (l.take m) (l.drop m)).1 (by rw [List.take_append_drop]; exact h)
  exact this.1
end Go.Proofs.Ytjbdfmniiiaakaa.Jou
