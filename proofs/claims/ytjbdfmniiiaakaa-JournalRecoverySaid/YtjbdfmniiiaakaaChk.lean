/- Check of the program and of the reference return the error number, for every entry. -/
import Derived.Test.YtjbdfmniiiaakaaPutB
import Derived.Test.YtjbdfmniiiaakaaRputB
import Derived.Test.YtjbdfmniiiaakaaRef10
import Derived.Test.YtjbdfmniiiaakaaJou
namespace Go.Proofs.Ytjbdfmniiiaakaa
set_option linter.unusedVariables false
open Go.RowKit

/-- '[]byte(s)' by what is known of it. -/
theorem str_bytes {P : Program} (w : World) (src dst e : TypeId) (l : List UInt8) (hs : P.underlying src = some .string) (hd : P.underlying dst = some (.slice e)) (he : P.underlying e = some (.int .u8)) :
    ∃ C W1, Hid (Below w.heap.size w W1 ∧ Lie W1 W1.heap.size (some ⟨w.heap.size, 0, none⟩) (bytes l) ∧ l.length ≤ C) ∧
      (convert src dst (.string ⟨l.toArray⟩)).run P w = .ok (.slice (some ⟨w.heap.size, 0, none⟩) l.length C) W1 := by
  have hr := run_bytes_of_string (P := P) w src dst e ⟨l.toArray⟩ hs hd he
  have hsz : (⟨l.toArray⟩ : ByteArray).size = l.length := by simp [ByteArray.size]
  rw [hsz] at hr
  have hge := grownCap_ge w l.length 0 e
  refine ⟨_, _, ⟨by go_grown, fun hp => ⟨w.heap.size, 0, rfl, by simp, fun j u hu => ?_⟩, hge⟩, hr⟩
  have hj : j < l.length := by have := (List.getElem?_eq_some_iff.1 hu).1; rwa [bytes_len] at this
  rw [bytes_get l j hj] at hu
  rw [Nat.zero_add]
  refine Eq.trans ?_ hu
  show (w.drew.alloc _).cell? ⟨w.drew.heap.size, j, none⟩ = _
  rw [World.cell?_alloc_mark]
  unfold bytesRow
  simp only []
  rw [Array.getElem?_append_left (by simpa using hj)]
  simp [hj]
/-- an entry as a value. -/
def ev (e : Ent.E) : Value := .agg #[.int .i64 e.k, .int .i64 e.t, .string e.s]

theorem chk_k {e : Ent.E} (h : e.k < 1 ∨ 255 < e.k) : Ent.check e = 2 := by unfold Ent.check; rw [if_pos h]
theorem chk_t {e : Ent.E} (hk : ¬ (e.k < 1 ∨ 255 < e.k)) (h : e.t < 0 ∨ 3155932800 < e.t) : Ent.check e = 10 := by unfold Ent.check Ent.maxMoment; rw [if_neg hk, if_pos h]
theorem chk_s {e : Ent.E} (hk : ¬ (e.k < 1 ∨ 255 < e.k)) (ht : ¬ (e.t < 0 ∨ 3155932800 < e.t)) (h : 65536 < e.s.size) : Ent.check e = 5 := by unfold Ent.check Ent.maxMoment; rw [if_neg hk, if_neg ht, if_pos h]
theorem chk_0 {e : Ent.E} (hk : ¬ (e.k < 1 ∨ 255 < e.k)) (ht : ¬ (e.t < 0 ∨ 3155932800 < e.t)) (h : ¬ 65536 < e.s.size) : Ent.check e = 0 := by unfold Ent.check Ent.maxMoment; rw [if_neg hk, if_neg ht, if_neg h]
theorem ret_i {k : IntKind} {a : Nat} {b : Nat} (h : a = b) : Ending.returned (.int k (b : Int)) = .returned (.int k (a : Int)) := by rw [h]

set_option maxRecDepth 100000 in
set_option maxHeartbeats 800000 in
theorem check_any (x : Ent.E) (w : World) :
    Calls Try.prog 39 #[ev x] w fun e w' => e = .returned (.int .i64 (Ent.check x : Nat)) ∧ Below w.heap.size w w' := by
  obtain ⟨k, t, s⟩ := x
  unfold ev
  simp only
  by_cases h1 : k < 1
  · have HF := hide (chk_k (e := ⟨k, t, s⟩) (.inl h1))
    go_enter Try.func39, Try.ntmps39
    go_wp2_with fail
    go_ret
    exact ⟨ret_i HF.out, by go_grown⟩
  by_cases h2 : 255 < k
  · have HF := hide (chk_k (e := ⟨k, t, s⟩) (.inr h2))
    go_enter Try.func39, Try.ntmps39
    go_wp2_with fail
    go_ret
    exact ⟨ret_i HF.out, by go_grown⟩
  have hk : ¬ ((⟨k, t, s⟩ : Ent.E).k < 1 ∨ 255 < (⟨k, t, s⟩ : Ent.E).k) := by simp only; omega
  by_cases h3 : t < 0
  · have HF := hide (chk_t (e := ⟨k, t, s⟩) hk (.inl h3))
    clear hk
    go_enter Try.func39, Try.ntmps39
    go_wp2_with fail
    go_ret
    exact ⟨ret_i HF.out, by go_grown⟩
  by_cases h4 : 3155932800 < t
  · have HF := hide (chk_t (e := ⟨k, t, s⟩) hk (.inr h4))
    clear hk
    go_enter Try.func39, Try.ntmps39
    go_wp2_with fail
    go_ret
    exact ⟨ret_i HF.out, by go_grown⟩
  have ht : ¬ ((⟨k, t, s⟩ : Ent.E).t < 0 ∨ 3155932800 < (⟨k, t, s⟩ : Ent.E).t) := by simp only; omega
  by_cases h5 : 65536 < s.size
  · have HF := hide (chk_s (e := ⟨k, t, s⟩) hk ht h5)
    clear hk ht
    go_enter Try.func39, Try.ntmps39
    go_wp2_with fail
    go_ret
    exact ⟨ret_i HF.out, by go_grown⟩
  · have HF := hide (chk_0 (e := ⟨k, t, s⟩) hk ht h5)
    clear hk ht
    go_enter Try.func39, Try.ntmps39
    go_wp2_with fail
    go_ret
    exact ⟨ret_i HF.out, by go_grown⟩

set_option maxRecDepth 100000 in
set_option maxHeartbeats 800000 in
theorem refcheck_any (x : Ent.E) (w : World) :
    Calls Try.prog 40 #[ev x] w fun e w' => e = .returned (.int .i64 (Ent.check x : Nat)) ∧ Below w.heap.size w w' := by
  obtain ⟨k, t, s⟩ := x
  unfold ev
  simp only
  by_cases h1 : k < 1
  · have HF := hide (chk_k (e := ⟨k, t, s⟩) (.inl h1))
    go_enter Try.func40, Try.ntmps40
    go_wp2_with fail
    go_ret
    exact ⟨ret_i HF.out, by go_grown⟩
  by_cases h2 : 255 < k
  · have HF := hide (chk_k (e := ⟨k, t, s⟩) (.inr h2))
    go_enter Try.func40, Try.ntmps40
    go_wp2_with fail
    go_ret
    exact ⟨ret_i HF.out, by go_grown⟩
  have hk : ¬ ((⟨k, t, s⟩ : Ent.E).k < 1 ∨ 255 < (⟨k, t, s⟩ : Ent.E).k) := by simp only; omega
  by_cases h3 : t < 0
  · have HF := hide (chk_t (e := ⟨k, t, s⟩) hk (.inl h3))
    clear hk
    go_enter Try.func40, Try.ntmps40
    go_wp2_with fail
    go_ret
    exact ⟨ret_i HF.out, by go_grown⟩
  by_cases h4 : 3155932800 < t
  · have HF := hide (chk_t (e := ⟨k, t, s⟩) hk (.inr h4))
    clear hk
    go_enter Try.func40, Try.ntmps40
    go_wp2_with fail
    go_ret
    exact ⟨ret_i HF.out, by go_grown⟩
  have ht : ¬ ((⟨k, t, s⟩ : Ent.E).t < 0 ∨ 3155932800 < (⟨k, t, s⟩ : Ent.E).t) := by simp only; omega
  by_cases h5 : 65536 < s.size
  · have HF := hide (chk_s (e := ⟨k, t, s⟩) hk ht h5)
    clear hk ht
    go_enter Try.func40, Try.ntmps40
    go_wp2_with fail
    go_ret
    exact ⟨ret_i HF.out, by go_grown⟩
  · have HF := hide (chk_0 (e := ⟨k, t, s⟩) hk ht h5)
    clear hk ht
    go_enter Try.func40, Try.ntmps40
    go_wp2_with fail
    go_ret
    exact ⟨ret_i HF.out, by go_grown⟩
end Go.Proofs.Ytjbdfmniiiaakaa
