/- exampleHolds of the laws on layer 51 returns true. No condition. -/
import Derived.Test.YtjbdfmniiiaakaaDec
namespace Go.Proofs.Ytjbdfmniiiaakaa
set_option linter.unusedVariables false
open Go.RowKit

/-- a row of the call's own that is not empty. -/
theorem own_some {w : World} {base e size n c : Nat} {A : Option Addr} {xs : List Value} (h : w.ownsRow base e size (.slice A n c) n xs) (hn : 0 < n) : ∃ g, A = some ⟨g, 0, none⟩ ∧ base ≤ g ∧ g < w.heap.size ∧ n ≤ c ∧ c ≤ maxLen := by
  rcases h.2 with ⟨h1, h2⟩ | ⟨g, cap, cur, hv, hg, hh, h1, h2, _⟩
  · omega
  · simp only [Value.slice.injEq] at hv
    obtain ⟨rfl, -, rfl⟩ := hv
    exact ⟨g, rfl, hg, (Array.getElem?_eq_some_iff.1 hh).1, h1, h2⟩
theorem lie_bytes {w : World} {t : TypeId} {cs : List Value} {l : List UInt8} (h : bytes l = cs) : Lie (w.alloc (.cells cs.toArray t)) (w.alloc (.cells cs.toArray t)).heap.size (some ⟨w.heap.size, 0, none⟩) (bytes l) := by
  rw [h]
  exact (Lie.new w cs t).more (by simp)
theorem lie_bytes_at {w : World} {t : TypeId} {cs : List Value} {l : List UInt8} (g : Nat) (hg : g = w.heap.size) (h : bytes l = cs) : Lie (w.alloc (.cells cs.toArray t)) (w.alloc (.cells cs.toArray t)).heap.size (some ⟨g, 0, none⟩) (bytes l) := by
  subst hg; exact lie_bytes h
theorem below_new (w : World) (o : Obj) : Below w.heap.size w (w.alloc o) := (Below.refl _ _).alloc (Nat.le_refl _) o
/-- Encode's answer for a valid entry. -/
theorem gote_ok {w w' : World} {x : Ent.E} {e : Ending} (h : GotE w x e w') (hc : Ent.check x = 0) : ∃ A c, e = .returned (.tuple #[.slice A (Ent.encE x).length c, .int .i64 0]) ∧ w'.ownsRow w.heap.size 5 1 (.slice A (Ent.encE x).length c) (Ent.encE x).length (bytes (Ent.encE x)) ∧ Below w.heap.size w w' := by
  obtain ⟨hb, h⟩ := h
  rcases h with ⟨h1, _⟩ | ⟨_, A, c, he, ho⟩
  · omega
  · exact ⟨A, c, he, ho, hb⟩
theorem gote_err {w w' : World} {x : Ent.E} {e : Ending} (h : GotE w x e w') (hc : 0 < Ent.check x) : e = .returned (.tuple #[.slice none 0 0, .int .i64 (Ent.check x : Nat)]) ∧ Below w.heap.size w w' := by
  obtain ⟨hb, h⟩ := h
  rcases h with ⟨_, h1⟩ | ⟨h1, _⟩
  · exact ⟨h1, hb⟩
  · omega

/-- what was, and a block of three cells that the call has made. -/
def Kp (w : World) (g : Nat) (t : TypeId) (cs : Array Value) (W : World) : Prop := Below w.heap.size w W ∧ Blk W g t cs
theorem Kp.next {w W w1 : World} {g : Nat} {t : TypeId} {cs : Array Value} (h : Kp w g t cs W) (hb : Below W.heap.size W w1) : Kp w g t cs w1 := ⟨chain h.1 hb, h.2.below hb h.2.lt⟩
theorem Kp.drew {w W : World} {g : Nat} {t : TypeId} {cs : Array Value} (h : Kp w g t cs W) : Kp w g t cs W.drew := ⟨h.1.drew, h.2⟩
theorem Kp.cells {w W : World} {g : Nat} {t : TypeId} {a b c : Value} (h : Kp w g t #[a, b, c] W) : W.cell? ⟨g, 0, none⟩ = some a ∧ W.cell? ⟨g, 1, none⟩ = some b ∧ W.cell? ⟨g, 2, none⟩ = some c := ev_cells h.2
theorem Kp.new (w : World) (t : TypeId) (cs : Array Value) : Kp w w.heap.size t cs (w.alloc (.cells cs t)) := ⟨below_new _ _, Blk.new _ _ _⟩

def xA : Ent.E := ⟨1, 300, ⟨#[65]⟩⟩
theorem xA_check : Ent.check xA = 0 := by decide
theorem xA_len : (Ent.encE xA).length = 9 := by kernel_rfl
theorem xA_take : (Ent.encE xA).take 5 = [1, 172, 2, 1, 65] := by kernel_rfl
theorem xD : Ent.dE [1, 172] 0 = ⟨Ent.E0, 0, 4⟩ := by kernel_rfl

set_option maxRecDepth 100000 in
set_option maxHeartbeats 3200000 in
theorem example51_any (w : World) :
    Calls Try.prog 41 #[] w fun e w' => e = .returned (.bool true) ∧ Below w.heap.size w w' := by
  have HE := hide (encode_any xA w)
  go_enter Try.func41, Try.ntmps41
  go_wp2_with fail
  refine Calls.mono HE.out ?_
  intro e w1 h
  obtain ⟨A1, c1, he, o1, b1⟩ := gote_ok h xA_check
  rw [xA_len] at he o1
  subst he
  obtain ⟨g, rfl, -, hg, hc, hm⟩ := own_some o1 (by omega)
  have L1 := hide (Lie.of_own o1)
  have b1 := hide b1
  clear h o1 HE
  go_wp2_with fail
  refine Calls.mono (decode_any _ 2 2 [1, 172] 0 _ rfl (by simp) (by omega) (lie_bytes rfl)) ?_
  rw [xD]
  rintro e w2 ⟨rfl, b2⟩
  have b2 := chain (below_new w1 _) b2
  have L2 := hide (L1.out.on b2)
  have B2 := hide (chain b1.out b2)
  clear L1 b1 b2
  unfold ev Ent.E0
  go_wp2_with fail
  have L3 := hide ((lie_take L2.out 5).on ((below_new w2 (.cells #[.int .i64 0, .int .i64 0, .string ByteArray.empty] 36)).alloc (by simp) (.cells #[.int .u8 1, .int .u8 172, .int .u8 2, .int .u8 1, .int .u8 65] 5)))
  rw [xA_take] at L3
  refine Calls.mono (same_any _ _ 5 5 _ _ [1, 172, 2, 1, 65] [1, 172, 2, 1, 65] _ rfl rfl L3.out (lie_bytes_at _ (by simp) rfl)) ?_
  rintro e w3 ⟨rfl, rfl⟩
  go_wp2_with fail
  go_ret
  exact ⟨rfl, chain B2.out ((below_new w2 _).alloc (by simp) _)⟩
end Go.Proofs.Ytjbdfmniiiaakaa
