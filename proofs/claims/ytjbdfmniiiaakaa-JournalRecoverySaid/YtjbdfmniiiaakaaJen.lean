/- The journal's Entries, Bytes and Truncate: the entries in a new row, their bytes, the first entries. -/
import Derived.Test.YtjbdfmniiiaakaaJo
import Derived.Laws.CopyRow
import Derived.Laws.MakeOwn
namespace Go.Proofs.Ytjbdfmniiiaakaa
set_option linter.unusedVariables false
open Go.RowKit
open Ent (E)
open Jou (encJ)

/-- 'copy' of elements of three cells into a row that is known whole. -/
theorem run_copy3 {P : Program} (w : World) (dT sT ty elem : TypeId) (g n dCap sCap : Nat) (A : Option Addr) (cur : Array Value) (t : TypeId) (cs : List Value) (B : Nat)
    (hu : P.underlying dT = some (.slice elem)) (hs : (P.info? elem).map (·.size) = some 3) (hg : w.heap[g]? = some (.cells cur t (0, 0))) (hn : cs.length = n * 3) (hl : Lie w B A cs) (hfit : cs.length = cur.size) (h1 : ∀ v ∈ cs, v.oneCell' = true) :
    ∃ w', (Builtin.copy_ #[dT, sT] ty #[.slice (some ⟨g, 0, none⟩) n dCap, .slice A n sCap]).run P w = .ok (.int .i64 (n : Nat)) w' ∧ Blk w' g t cs.toArray ∧ w.grownBy w' (some g) := by
  cases hq : P.info? elem with
  | none => simp [hq] at hs
  | some i =>
    have hi : i.size = 3 := by simpa [hq] using hs
    have hst := run_storeCells_at P g 0 t cs 0 cur w hg (by omega) h1
    simp only [Nat.add_zero, Nat.zero_add, List.take_zero, List.nil_append] at hst
    rw [List.drop_eq_nil_of_le (by simp; omega), List.append_nil] at hst
    have hB := setRow_heap w g cur cs.toArray t (0, 0) hg
    refine ⟨w.setRow g cs.toArray, ?_, hB, ⟨rfl, rfl, rfl, by simp [World.setRow], fun k hk hne => setRow_other w g k _ (fun e => hne (by rw [e]))⟩⟩
    rcases A with _ | a
    · have hc : cs = [] := by
        rcases cs with _ | ⟨x, r⟩
        · rfl
        · obtain ⟨b, o, h, _⟩ := hl (by simp)
          cases h
      subst hc
      have hn0 : n = 0 := by simp at hn; omega
      subst hn0
      simp [Builtin.copy_, run_underlying hu, Builtin.lenOf, Builtin.firstCells, sizeOf, typeInfo, hq, hst, goInt]
    · have hld : (loadCells a (n * 3)).run P w = .ok cs.toArray w := by
        rw [← hn]
        refine run_loadCells_list (P := P) w a cs fun j u hu => ?_
        obtain ⟨b, o, hA, _, hc⟩ := hl (by have := (List.getElem?_eq_some_iff.1 hu).1; omega)
        obtain rfl := Option.some.inj hA
        rw [Addr.add_lit]
        exact hc j u hu
      simp [Builtin.copy_, run_underlying hu, Builtin.lenOf, Builtin.firstCells, sizeOf, typeInfo, hq, hi, hld, hst, goInt]

/-- a list of entries as a row that the call has made. -/
def GivesE (w : World) (l : List E) (e : Ending) (w' : World) : Prop :=
  ∃ A c, e = .returned (.slice A l.length c) ∧ w'.ownsRow w.heap.size 36 3 (.slice A l.length c) l.length (flat l) ∧ Below w.heap.size w w'

set_option maxRecDepth 100000 in
set_option maxHeartbeats 3200000 in
theorem entries_any (g : Nat) (l : List E) (w : World) (h : JR w g l) (hl : l.length ≤ 1000000) : Calls Try.prog 26 #[.pointer (some ⟨g, 0, none⟩)] w (GivesE w l) := by
  obtain ⟨A, c, h1, h2, h3⟩ := h
  have c0 : w.cell? ⟨g, 0, none⟩ = some (.slice A l.length c) := h1.cell 0
  obtain ⟨i0, hi, hz0, hz1, hz2⟩ := info_parts info_e
  have hsz : (Try.prog.info? 36).map (·.size) = some 3 := by rw [hi]; simp [hz1]
  have hmk : ∀ W : World, (Instr.makeSlice 32 (.int .i64 (l.length : Nat)) (.int .i64 (l.length : Nat))).run Try.prog W = .ok (.slice (some ⟨W.heap.size, 0, none⟩) l.length l.length) (W.alloc (.cells (madeCells (Value.agg #[.int .i64 0, .int .i64 0, .string ⟨#[]⟩]).cells (l.length * 3)) 36)) := fun W => by
    have := run_make (P := Try.prog) W 32 36 i0 _ Try.underlying32 hi hz0 .i64 .i64 (l.length : Int) (l.length : Int) (by omega) (Int.le_refl _) (by rw [hz2]; omega) (by omega)
    rw [hz1] at this
    simpa using this
  have hms := size_madeCells (Value.agg #[.int .i64 0, .int .i64 0, .string ⟨#[]⟩]).cells (l.length * 3)
  generalize madeCells (Value.agg #[.int .i64 0, .int .i64 0, .string ⟨#[]⟩]).cells (l.length * 3) = mc at hmk hms
  have hms' := hide hms
  clear hms
  have L3 := hide h3
  have n0 : (w.alloc (.cells mc 36)).cell? ⟨g, 0, none⟩ = some (.slice A l.length c) := (h1.alloc _).cell 0
  obtain ⟨w2, hrun, HB', HG'⟩ := run_copy3 (P := Try.prog) (w.alloc (.cells mc 36)) 32 32 3 36 w.heap.size l.length l.length c A mc 36 (flat l) w.heap.size Try.underlying32 hsz (Blk.new w _ _) (flat_len l) (L3.out.below (below_new _ _)) (by rw [flat_len, hms'.out]) (flat_mem l)
  have HB := hide HB'
  have HG := hide HG'
  clear h1 h3 hsz HB' HG'
  go_enter Try.func26, Try.ntmps26
  go_wp2_with fail
  go_ret
  refine ⟨some ⟨w.heap.size, 0, none⟩, l.length, rfl, ⟨flat_len l, .inr ⟨w.heap.size, l.length, (flat l).toArray, rfl, Nat.le_refl _, HB.out, Nat.le_refl _, by unfold maxLen; omega, by simp [flat_len], ?_⟩⟩, ?_⟩
  · simp only []
    exact List.take_of_length_le (by rw [flat_len]; exact Nat.le_refl _)
  · exact (below_new w _).grown HG.out (by simp) (fun k hk => by simp at hk; omega)
set_option maxRecDepth 100000 in
theorem entries_nil (w : World) : Calls Try.prog 26 #[.pointer none] w fun e w' => e = .returned (.slice none 0 0) ∧ w = w' := by
  go_enter Try.func26, Try.ntmps26
  go_wp2_with fail
  go_ret
  exact ⟨rfl, rfl⟩
end Go.Proofs.Ytjbdfmniiiaakaa
