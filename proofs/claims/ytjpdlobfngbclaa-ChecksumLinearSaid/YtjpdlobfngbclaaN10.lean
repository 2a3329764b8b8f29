/- The walks of the laws ChecksumLinear and ChecksumEnds, for every input. -/
import Derived.Test.YtjpdlobfngbclaaM10
import Derived.ArgAppend
namespace Go.Proofs.Ytjpdlobfngbclaa
set_option linter.unusedVariables false
open Go.RowKit

/-! ### append onto a marked row -/
theorem Below.setCells_ {B : Nat} {w0 : World} {b : Nat} (hB : B ≤ b) : ∀ (vs : List Value) (o : Nat) (w : World), Below B w0 w → Below B w0 (w.setCells b o vs)
  | [], _, _, h => h
  | v :: r, o, w, h => by
    rw [World.setCells]
    exact Below.setCells_ hB r (o + 1) _ (h.setCell (p := ⟨b, o, none⟩) hB v)
theorem wpList_app_row {P : Program} {w : World} {ops : Array Oper} {rest : List Oper} {o : Oper} {a : Act} {Q : Exit → Act → World → Prop} (hgd : o.guard = none) (s x : Operand) (t : TypeId)
    (ho : o.op = .call { callee := .builtin .append, args := #[s, x], argTypes := #[t, t] })
    (e : TypeId) (i : TypeInfo) (z : Value) (bytes : Nat) (ht : P.underlying t = some (.slice e)) (hi : P.info? e = some i) (hz : i.zero = some z)
    (hsize : i.size = 1) (hby : i.bytes = bytes) (hzs : z.cells.size = 1)
    (g n cap : Nat) (cs : Array Value) (hrow : RowM w g e cs) (hcap : cs.size = cap) (olds : List Value) (hs : a.eval s = .slice (some ⟨g, 0, none⟩) n cap) (hn : n ≤ cap) (hol : cs.toList.take n = olds)
    (B : Nat) (C : Option Addr) (m d : Nat) (news : List Value) (hx : a.eval x = .slice C m d) (hm : news.length = m) (hm0 : 0 < m) (hl : Lie w B C news) (h1 : ∀ u ∈ news, u.oneCell' = true)
    (hbytes : (n + m) * bytes ≤ 140737488355328) (h63 : n + m ≤ maxLen) (base : Nat) (hbase : base ≤ g) (w0 : World) (hb : Below base w0 w) (hbw : base ≤ w.heap.size)
    (h : ∀ A' c' w', Hid (Lie w' w'.heap.size A' (olds ++ news) ∧ n + m ≤ c') → Below base w0 w' → wpList P ops Q rest (a.put o.dst (.slice A' (n + m) c')) w') : wpList P ops Q (o :: rest) a w := by
  obtain ⟨ad, rfl, hsrc⟩ := hl.src (by omega)
  have hlo : olds.length = n := by rw [← hol, List.length_take, Array.length_toList]; omega
  have hcells : ∀ j u, olds[j]? = some u → w.cell? ⟨g, 0 + j, none⟩ = some u := by
    intro j u hu
    rw [Nat.zero_add, hrow.cell]
    rw [← hol, List.getElem?_take] at hu
    split at hu
    · simpa using hu
    · cases hu
  have hsome : ∀ j, j < cap → (w.cell? ⟨g, j, none⟩).isSome = true := by
    intro j hj
    rw [hrow.cell, Array.getElem?_eq_getElem (by omega)]
    rfl
  refine wpList_append_arg w hgd s x t ho e i z 1 bytes ht hi hz hsize hby hzs (by omega) g 0 n cap olds hs (by omega) hcells ad m d news hx (by omega) hsrc h1 ?_ h63 hbytes ?_ ?_
  · intro hr j hj
    exact ⟨hsome _ (by omega), hrow.free _ (by omega)⟩
  · intro hr
    refine h _ _ _ (show _ ∧ _ from ⟨fun hp => ⟨g, 0, rfl, ?_, fun j u hu => ?_⟩, hr⟩) (Below.setCells_ hbase _ _ _ hb)
    · have := (Below.setCells_ (w0 := w) (B := 0) (b := g) (Nat.zero_le _) news (0 + n * 1) w (Below.refl _ _)).size
      have := hrow.lt
      omega
    · rw [show 0 + n * 1 = n by omega, Nat.zero_add]
      rcases Nat.lt_or_ge j n with hj | hj
      · rw [List.getElem?_append_left (by omega)] at hu
        rw [World.cell?_setCells_out g news n w ⟨g, j, none⟩ (fun _ _ => .inl (by show j < _; omega))]
        have := hcells j u hu
        rwa [Nat.zero_add] at this
      · rw [List.getElem?_append_right (by omega), hlo] at hu
        have hjl := (List.getElem?_eq_some_iff.1 hu).1
        have := World.cell?_setCells_in g news n w (fun k hk => hsome _ (by omega)) (j - n) hjl
        rw [show n + (j - n) = j by omega] at this
        rw [this]
        exact (List.getElem?_eq_getElem hjl).symm.trans hu
  · intro hr v' w' hown hgr
    obtain ⟨A', c', rfl⟩ := own_form hown
    refine h A' c' w' (show _ ∧ _ from ⟨Lie.of_own hown, ?_⟩) (hb.grown hgr hbw (fun k hk => by cases hk))
    rcases hown.2 with ⟨h', h''⟩ | ⟨g', cap', cur, hv, _, _, h3, _⟩
    · omega
    · simp only [Value.slice.injEq] at hv
      omega

/-! ### the exclusive or -/
theorem xorTo_x3 (a b c : List UInt8) (hb : b.length = a.length) (hc : c.length = a.length) : xorTo a b c a.length = Crc.x3 a b c := by
  have hx : ∀ (a b c : List UInt8) (j : Nat), b.length = a.length → c.length = a.length → j < a.length → (Crc.x3 a b c)[j]? = some (a.getD j 0 ^^^ b.getD j 0 ^^^ c.getD j 0) := by
    intro a
    induction a with
    | nil => intro b c j _ _ hj; simp at hj
    | cons x a ih =>
      intro b c j hb hc hj
      cases b with
      | nil => simp at hb
      | cons y b =>
        cases c with
        | nil => simp at hc
        | cons z c =>
          cases j with
          | zero => simp [Crc.x3]
          | succ j => simpa [Crc.x3] using ih b c j (by simpa using hb) (by simpa using hc) (by simpa using hj)
  apply List.ext_getElem?
  intro j
  by_cases hj : j < a.length
  · rw [hx a b c j hb hc hj]
    simp [xorTo, hj]
  · rw [List.getElem?_eq_none (by rw [xorTo_len]; omega), List.getElem?_eq_none (by rw [Crc.x3_len a b c hb hc]; omega)]

set_option maxRecDepth 100000 in
set_option maxHeartbeats 800000 in
theorem linear_main (A B C : Option Addr) (ca cb cc : Nat) (a b c : List UInt8) (w : World) (hl : a.length ≤ 4096) (hb : b.length = a.length) (hc : c.length = a.length) (hA : Lie w w.heap.size A (bytes a)) (hB : Lie w w.heap.size B (bytes b)) (hC : Lie w w.heap.size C (bytes c)) :
    Calls Try.prog 10 #[.slice A a.length ca, .slice B a.length cb, .slice C a.length cc] w fun e w' => e = .returned (.bool true) ∧ Below w.heap.size w w' := by
  have HS := hide (Crc.sum_x3 a b c hb hc)
  have HX := hide (xorTo_x3 a b c hb hc)
  have x1 : bits .xor .u32 (Crc.sum a : Int) (Crc.sum b : Int) = ((Crc.sum a ^^^ Crc.sum b : Nat) : Int) := u32_xor_nat _ _ (Crc.sum_lt a) (Crc.sum_lt b)
  have x2 : bits .xor .u32 ((Crc.sum a ^^^ Crc.sum b : Nat) : Int) (Crc.sum c : Int) = ((Crc.sum (Crc.x3 a b c) : Nat) : Int) := by
    rw [HS.out]
    exact u32_xor_nat _ _ (Nat.xor_lt_two_pow (n := 32) (Crc.sum_lt a) (Crc.sum_lt b)) (Crc.sum_lt c)
  have HL := hide (Crc.x3_len a b c hb hc)
  have HB := hide hb
  have HC := hide hc
  clear hb hc
  go_enter Try.func10, Try.ntmps10
  go_wp2_with fail
  refine (xor_any _ _ _ _ _ _ _ a b c _ rfl HB.out HC.out (by omega) hA hB hC).mono ?_
  rintro e w1 ⟨D, d, rfl, hown, hb1⟩
  rw [HX.out] at hown
  go_wp2_with fail
  refine (crc_any _ _ _ (Crc.x3 a b c) _ (by rw [HL.out]) (by rw [HL.out]; omega) (Lie.of_own hown)).mono ?_
  rintro e w2 ⟨rfl, hb2⟩
  have hb12 := chain hb1 hb2
  go_wp2_with fail
  refine (crc_any _ _ _ a _ rfl (by omega) ((hA.below hb12).more hb12.size)).mono ?_
  rintro e w3 ⟨rfl, hb3⟩
  have hb13 := chain hb12 hb3
  go_wp2_with fail
  refine (crc_any _ _ _ b _ (by rw [HB.out]) (by rw [HB.out]; omega) ((hB.below hb13).more hb13.size)).mono ?_
  rintro e w4 ⟨rfl, hb4⟩
  have hb14 := chain hb13 hb4
  go_wp2_with fail
  refine (crc_any _ _ _ c _ (by rw [HC.out]) (by rw [HC.out]; omega) ((hC.below hb14).more hb14.size)).mono ?_
  rintro e w5 ⟨rfl, hb5⟩
  have hb15 := chain hb14 hb5
  go_wp2_with (go_at_call 15; refine (example10_any _).mono ?_; rintro e w6 ⟨rfl, hb6⟩)
  go_ret
  exact ⟨rfl, chain hb15 hb6⟩

set_option maxRecDepth 100000 in
set_option maxHeartbeats 800000 in
theorem walk_ChecksumLinear (a0 : Option Addr) (len0 cap0 : Nat) (z0 : List Int) (a1 : Option Addr) (len1 cap1 : Nat) (z1 : List Int) (a2 : Option Addr) (len2 cap2 : Nat) (z2 : List Int) (w : World)
    (w0 : IsRow .u8 w a0 len0 cap0 z0) (w1 : IsRow .u8 w a1 len1 cap1 z1) (w2 : IsRow .u8 w a2 len2 cap2 z2) :
    Calls Try.prog 10 #[.slice a0 len0 cap0, .slice a1 len1 cap1, .slice a2 len2 cap2] w fun e w' => e = .returned (.bool true) ∧ Below w.heap.size w w' := by
  obtain ⟨a, rfl, _, hA⟩ := row_bytes w0
  obtain ⟨b, rfl, _, hB⟩ := row_bytes w1
  obtain ⟨c, rfl, _, hC⟩ := row_bytes w2
  clear w0 w1 w2
  by_cases hl : 4096 < a.length
  · go_enter Try.func10, Try.ntmps10
    go_wp2_with (go_at_call 15; refine (example10_any _).mono ?_; rintro e w1 ⟨rfl, hb1⟩)
    go_ret
    exact ⟨rfl, hb1⟩
  · by_cases hb : b.length = a.length
    · by_cases hc : c.length = a.length
      · rw [hb, hc]
        exact linear_main _ _ _ _ _ _ a b c w (by omega) hb hc hA hB hC
      · have h1 : ((b.length : Int) != (a.length : Int)) = false := by simp; omega
        have h2 : ((c.length : Int) != (a.length : Int)) = true := by simp; omega
        clear hb hc
        go_enter Try.func10, Try.ntmps10
        go_wp2_with (go_at_call 15; refine (example10_any _).mono ?_; rintro e w1 ⟨rfl, hb1⟩)
        go_ret
        exact ⟨rfl, hb1⟩
    · have h1 : ((b.length : Int) != (a.length : Int)) = true := by simp; omega
      clear hb
      go_enter Try.func10, Try.ntmps10
      go_wp2_with (go_at_call 15; refine (example10_any _).mono ?_; rintro e w1 ⟨rfl, hb1⟩)
      go_ret
      exact ⟨rfl, hb1⟩

/-! ### ends -/
theorem FlipSt.bytes_ {l : List UInt8} {at_ pat C : Nat} {cs : Array Value} (h : FlipSt l at_ pat 32 C cs) (hp : pat < 4294967296) :
    cs.size = C ∧ l.length ≤ C ∧ ∃ X : List UInt8, X.length = l.length ∧ cs.toList.take l.length = bytes X ∧ Crc.num X = Crc.num l ^^^ 2 ^ at_ * pat := by
  obtain ⟨h1, h2, X, h3, h4, h5⟩ := h
  rw [Nat.mod_eq_of_lt (by omega)] at h5
  exact ⟨h1, h2, X, h3, h4, h5⟩
theorem lie_rowM {w : World} {g : Nat} {t : TypeId} {cs : Array Value} {n : Nat} {X : List UInt8} (h : RowM w g t cs) (he : cs.toList.take n = bytes X) : Lie w w.heap.size (some ⟨g, 0, none⟩) (bytes X) := fun _ =>
  ⟨g, 0, rfl, h.lt, fun j u hu => by
    rw [Nat.zero_add, h.cell]
    rw [← he, List.getElem?_take] at hu
    split at hu
    · simpa using hu
    · cases hu⟩

/-- a sealed string whose end was turned. -/
theorem ends_law (l X : List UInt8) (pat : Nat) (hp : pat < 4294967296) (h0 : pat ≠ 0) (hX : X.length = (Ent.sealed l).length) (hn : Crc.num X = Crc.num (Ent.sealed l) ^^^ 2 ^ (8 * l.length) * pat) : Ent.verify X = ([], 38) := by
  rw [Ent.sealed_len] at hX
  have hsplit : X = X.take l.length ++ X.drop l.length := (List.take_append_drop _ _).symm
  have hl1 : (X.take l.length).length = l.length := by simp; omega
  have hl2 : (X.drop l.length).length = 4 := by simp; omega
  rw [hsplit, Crc.num_append, hl1, Ent.sealed, Crc.num_append, Crc.add_xor _ _ _ (Crc.num_lt l), Crc.add_xor _ _ _ (by have := Crc.num_lt (X.take l.length); rwa [hl1] at this), Nat.xor_assoc, ← Crc.mul_xor] at hn
  have hmod := congrArg (· % 2 ^ (8 * l.length)) hn
  have hdiv := congrArg (· / 2 ^ (8 * l.length)) hn
  have a1 := Crc.num_lt l
  have a2 : Crc.num (X.take l.length) < 2 ^ (8 * l.length) := by have := Crc.num_lt (X.take l.length); rwa [hl1] at this
  rw [← Crc.add_xor _ _ _ a1, ← Crc.add_xor _ _ _ a2] at hmod hdiv
  simp only [Nat.add_mul_mod_self_left, Nat.mod_eq_of_lt a1, Nat.mod_eq_of_lt a2] at hmod
  rw [Nat.add_mul_div_left _ _ (Nat.two_pow_pos _), Nat.add_mul_div_left _ _ (Nat.two_pow_pos _), Nat.div_eq_of_lt a1, Nat.div_eq_of_lt a2, Nat.zero_add, Nat.zero_add] at hdiv
  have e1 : X.take l.length = l := Crc.num_inj _ _ hl1 hmod
  have hv := Ent.verify_ne (X.take l.length) (X.drop l.length) hl2 (by
    rw [e1]
    intro h
    rw [h] at hdiv
    have := congrArg (Crc.num (Ent.tail4 (Crc.sum l)) ^^^ ·) hdiv
    simp only [Nat.xor_self, ← Nat.xor_assoc, Nat.zero_xor] at this
    exact h0 this.symm)
  rw [List.take_append_drop] at hv
  exact hv

theorem ver_38 {w w' : World} {l : List UInt8} {e : Ending} (hv : Ent.verify l = ([], 38)) (h : VerGot w l e w') : ∃ B c, e = .returned (.tuple #[.slice B 0 c, .int .i64 38]) ∧ Below w.heap.size w w' := by
  unfold VerGot at h
  rw [hv] at h
  obtain ⟨B, c, h1, _, h3⟩ := h
  exact ⟨B, c, h1, h3⟩

set_option maxRecDepth 100000 in
set_option maxHeartbeats 800000 in
theorem ends_main (A : Option Addr) (ca : Nat) (l : List UInt8) (pat : Nat) (w : World) (hl : l.length ≤ 4096) (hp : pat < 4294967296) (h0 : 0 < pat) (hA : Lie w w.heap.size A (bytes l)) :
    Calls Try.prog 9 #[.slice A l.length ca, .int .u32 pat] w fun e w' => e = .returned (.bool true) ∧ Below w.heap.size w w' := by
  have hp0 : ((pat : Int) == 0) = false := by simp; omega
  have HS := hide (Ent.sealed_len l)
  go_enter Try.func9, Try.ntmps9
  go_wp2_with fail
  refine (append_any _ _ _ l _ rfl (by omega) hA).mono ?_
  rintro e w1 ⟨g, rfl, hown1, hb1⟩
  have hl1 := Lie.of_own hown1
  go_wp2_with fail
  rw [show (8 : Int) * (l.length : Int) = ((8 * l.length : Nat) : Int) by omega]
  refine Calls.mono (flip_any _ _ _ (Ent.sealed l) (8 * l.length) pat _ (by rw [HS.out]) (by omega) hp hl1) ?_
  rintro e w2 ⟨hb2, hf⟩
  have hb12 := chain hb1 hb2
  rcases hf with ⟨rfl, k, hk, hout⟩ | ⟨g2, C, cs, rfl, hg2, hrow, hst⟩
  · rw [HS.out] at hout
    omega
  · obtain ⟨q1, q2, X, q3, q4, q5⟩ := hst.bytes_ hp
    have hv := ends_law l X pat hp (by omega) q3 q5
    have hlX := lie_rowM hrow q4
    have HQ := hide q3
    have HV := hide hv
    rw [HS.out] at q2
    rw [HS.out]
    clear q1 q3 q4 q5 hst hv
    go_wp2_with fail
    refine Calls.mono (verify_any _ _ _ X _ (by rw [HQ.out, HS.out]) (by rw [HQ.out, HS.out]; omega) q2 hlX) ?_
    intro e w3 hv
    obtain ⟨B3, c3, rfl, hb3⟩ := ver_38 HV.out hv
    clear hv
    go_wp2_with (go_at_call 15; refine (example10_any _).mono ?_; rintro e w6 ⟨rfl, hb6⟩)
    go_ret
    exact ⟨rfl, chain (chain hb12 hb3) hb6⟩

set_option maxRecDepth 100000 in
set_option maxHeartbeats 800000 in
theorem walk_ChecksumEnds (a0 : Option Addr) (len0 cap0 : Nat) (z0 : List Int) (a1 : Int) (w : World) (w0 : IsRow .u8 w a0 len0 cap0 z0) (w1 : (Lit.int .u32 a1).wf = true) :
    Calls Try.prog 9 #[.slice a0 len0 cap0, .int .u32 a1] w fun e w' => e = .returned (.bool true) ∧ Below w.heap.size w w' := by
  obtain ⟨l, rfl, _, hA⟩ := row_bytes w0
  obtain ⟨pat, rfl, hp⟩ := u32_wf w1
  clear w0 w1
  by_cases hl : 4096 < l.length
  · go_enter Try.func9, Try.ntmps9
    go_wp2_with (go_at_call 15; refine (example10_any _).mono ?_; rintro e w1 ⟨rfl, hb1⟩)
    go_ret
    exact ⟨rfl, hb1⟩
  · by_cases h0 : 0 < pat
    · exact ends_main a0 cap0 l pat w (by omega) hp h0 hA
    · obtain rfl : pat = 0 := by omega
      go_enter Try.func9, Try.ntmps9
      go_wp2_with (go_at_call 15; refine (example10_any _).mono ?_; rintro e w1 ⟨rfl, hb1⟩)
      go_ret
      exact ⟨rfl, hb1⟩
end Go.Proofs.Ytjpdlobfngbclaa
