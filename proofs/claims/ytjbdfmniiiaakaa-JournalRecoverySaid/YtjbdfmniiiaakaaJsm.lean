/- Words for the laws on journals of at most 30 entries: sizes, strings of rows. No condition. -/
import Derived.Test.YtjbdfmniiiaakaaEx52
namespace Go.Proofs.Ytjbdfmniiiaakaa
set_option linter.unusedVariables false
open Go.RowKit
open Ent (E)
open Jou (encJ)

theorem str_at {w : World} {A : Option Addr} {c n B : Nat} {m : List UInt8} (h : Lie w B A (bytes m)) (hn : m.length = n) : (convert 22 9 (.slice A n c)).run Try.prog w = .ok (.string ⟨m.toArray⟩) w := by
  subst hn
  exact run_str w _ _ 5 A c m _ Try.underlying22 Try.underlying5 Try.underlying9 h
theorem ok_check {q p : List E} (h : Jou.Ok q p) : ∀ x ∈ p, Ent.check x = 0 := by
  induction p generalizing q with
  | nil => intro x hx; simp at hx
  | cons y p ih =>
    intro x hx
    rcases List.mem_cons.1 hx with rfl | hx
    · exact Jou.err_check h.1
    · exact ih h.2 x hx
theorem small_enc {x : E} (h1 : x.s.size ≤ 1024) (h2 : Ent.check x = 0) : (Ent.encE x).length ≤ 1100 := by
  have n1 := (Bin.enc_len x.k.toNat).2
  have n2 := (Bin.enc_len x.t.toNat).2
  have n3 := (Bin.enc_len x.s.data.toList.length).2
  have : x.s.data.toList.length = x.s.size := by simp
  rw [Ent.encE, Ent.sealed_len, Ent.body, List.length_append, List.length_append]
  unfold Bin.encB
  rw [List.length_append]
  omega
theorem small_encJ (l : List E) (h : ∀ x ∈ l, x.s.size ≤ 1024 ∧ Ent.check x = 0) : (encJ l).length ≤ l.length * 1100 := by
  induction l with
  | nil => simp [encJ]
  | cons x l ih =>
    have h1 := small_enc (h x (by simp)).1 (h x (by simp)).2
    have h2 := ih (fun y hy => h y (by simp [hy]))
    rw [encJ, List.length_append, List.length_cons]; omega
/-- what is known of the journal that was made of a small list. -/
structure Kept (l p : List E) : Prop where
  ok : Jou.Ok [] p
  check : ∀ x ∈ p, Ent.check x = 0
  len : p.length ≤ 30
  bytes : (encJ p).length ≤ 33000
theorem kept_mk {l : List E} (h : smallB l = true) : Kept l (Jou.keep [] l) := by
  obtain ⟨h1, h2⟩ := smallB_yes h
  have hk := Jou.keep_ok l [] trivial
  have hc := ok_check hk
  have hl := Jou.keep_len l []
  simp at hl
  refine ⟨hk, hc, by omega, ?_⟩
  have := small_encJ (Jou.keep [] l) (fun x hx => ⟨?_, hc x hx⟩)
  · omega
  · rcases Jou.keep_mem l [] x hx with h | h
    · simp at h
    · exact h2 x h
end Go.Proofs.Ytjbdfmniiiaakaa
