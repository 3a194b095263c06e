/- The reference's Cover, plain: edges of the union. No condition. The reference's in: does a key lie in one of the ranges. No condition but sizes. The reference's edge: the least key from k on where the union is held, or is not. No condition but sizes and that k is a key. The reference's Cover. No condition but sizes. -/
import Derived.Test.YtijlaknfagpglaaCovl
import Derived.Test.YtijlaknfagpglaaCovm
import Derived.Test.YtijlaknfagpglaaSpanc
import Derived.Test.YtijlaknfagpglaaSpanf
namespace Go.Proofs.Ytijlaknfagpglaa
open Go.RowKit Go.Proofs
set_option linter.unusedVariables false
/-- The least key from k on where the union is held, or is not; no bytes: none. -/
structure EdgeOf (rs : List Rg) (k : List UInt8) (held : Bool) (e : List UInt8) : Prop where
  is : e ≠ [] → isKeyB e = true ∧ LeB k e ∧ anyB rs e = held
  below : ∀ x, isKeyB x = true → LeB k x → (e = [] ∨ LtB x e) → anyB rs x = !held
/-- The end of a form that may be an edge. -/
def endB (held : Bool) (f : Rg) : List UInt8 := if held then f.lo else f.hi
def candB (rs : List Rg) (k : List UInt8) (held : Bool) (c : List UInt8) : Bool := decide (c ≠ []) && decide (LeB k c) && (anyB rs c == held)
theorem candB_iff {rs : List Rg} {k c : List UInt8} {held : Bool} : candB rs k held c = true ↔ c ≠ [] ∧ LeB k c ∧ anyB rs c = held := by simp [candB, and_assoc]
/-- The least candidate of the forms that were seen. -/
structure LeastC (rs : List Rg) (k : List UInt8) (held : Bool) (seen : List Rg) (out : List UInt8) : Prop where
  is : out ≠ [] → ∃ r ∈ seen, ∃ f, formB r = some f ∧ out = endB held f ∧ candB rs k held out = true
  le : ∀ r ∈ seen, ∀ f, formB r = some f → candB rs k held (endB held f) = true → out ≠ [] ∧ LeB out (endB held f)
theorem LeastC.nil (rs : List Rg) (k : List UInt8) (held : Bool) : LeastC rs k held [] [] := ⟨fun h => absurd rfl h, fun r h => (by cases h)⟩
/-- Where a key lies in the union and a later one does not, an end lies between that does not. -/
theorem key_in {rs : List Rg} {y : List UInt8} (hy : isKeyB y = true) (h : anyB rs y = true) : ∃ r ∈ rs, ∃ f, formB r = some f ∧ LeB f.lo y ∧ (f.op = true ∨ LtB y f.hi) := by
  obtain ⟨r, hr, h1⟩ := anyB_iff.1 h
  rw [has_form r y hy] at h1
  cases hf : formB r with
  | none => rw [hf] at h1; cases h1
  | some f =>
    rw [hf] at h1
    simp only [Bool.and_eq_true, decide_eq_true_eq, Bool.or_eq_true] at h1
    exact ⟨r, hr, f, hf, h1.1, h1.2⟩
theorem in_key {rs : List Rg} {r f : Rg} {y : List UInt8} (hr : r ∈ rs) (hf : formB r = some f) (hy : isKeyB y = true) (h1 : LeB f.lo y) (h2 : f.op = true ∨ LtB y f.hi) : anyB rs y = true := by
  refine anyB_iff.2 ⟨r, hr, ?_⟩
  rw [has_form r y hy, hf]
  simp only [Bool.and_eq_true, decide_eq_true_eq, Bool.or_eq_true]
  exact ⟨h1, h2⟩
def hiAbove (y : List UInt8) (r : Rg) : Bool := match formB r with
  | some f => decide (LtB y f.hi)
  | none => false
theorem countP_lt {α : Type} {p q : α → Bool} : ∀ (l : List α), (∀ a ∈ l, p a = true → q a = true) → (∃ a ∈ l, q a = true ∧ p a = false) → l.countP p < l.countP q
  | [], _, ⟨_, h, _⟩ => by cases h
  | b :: l, h, ⟨a, ha, h1, h2⟩ => by
    have hm : l.countP p ≤ l.countP q := List.countP_mono_left fun a h9 => h a (.tail _ h9)
    rw [List.countP_cons, List.countP_cons]
    rcases List.mem_cons.1 ha with rfl | ha
    · rw [h1, h2]; simp; omega
    · have h3 := countP_lt l (fun a h9 => h a (.tail _ h9)) ⟨a, ha, h1, h2⟩
      cases hb : p b with
      | false => cases q b <;> simp <;> omega
      | true => rw [h b (.head _) hb]; simp; omega
theorem hi_chain {rs : List Rg} {x : List UInt8} (hx : isKeyB x = true) (hn : anyB rs x = false) : ∀ (N : Nat) (y : List UInt8), rs.countP (hiAbove y) ≤ N → isKeyB y = true → anyB rs y = true → LeB y x → ∃ r ∈ rs, ∃ f, formB r = some f ∧ f.op = false ∧ LtB y f.hi ∧ LeB f.hi x ∧ anyB rs f.hi = false := by
  intro N
  induction N with
  | zero =>
    intro y hc hy hu hyx
    obtain ⟨r, hr, f, hf, h1, h2⟩ := key_in hy hu
    exfalso
    have hop : f.op = false := by
      cases ho : f.op with
      | false => rfl
      | true => rw [in_key hr hf hx (h1.trans hyx) (.inl ho)] at hn; cases hn
    have h3 : LtB y f.hi := h2.resolve_left (by rw [hop]; simp)
    have : 0 < rs.countP (hiAbove y) := List.countP_pos_iff.2 ⟨r, hr, by unfold hiAbove; rw [hf]; exact decide_eq_true h3⟩
    omega
  | succ N ih =>
    intro y hc hy hu hyx
    obtain ⟨r, hr, f, hf, h1, h2⟩ := key_in hy hu
    have hop : f.op = false := by
      cases ho : f.op with
      | false => rfl
      | true => rw [in_key hr hf hx (h1.trans hyx) (.inl ho)] at hn; cases hn
    have h3 : LtB y f.hi := h2.resolve_left (by rw [hop]; simp)
    have h4 : LeB f.hi x := LtB.not.1 fun h9 => by rw [in_key hr hf hx (h1.trans hyx) (.inr h9)] at hn; cases hn
    cases hu2 : anyB rs f.hi with
    | false => exact ⟨r, hr, f, hf, hop, h3, h4, hu2⟩
    | true =>
      have hk := ((formB_ok hf).hi hop).1
      obtain ⟨r', hr', f', hf', a1, a2, a3, a4⟩ := ih f.hi (by
        have h5 := countP_lt (p := hiAbove f.hi) (q := hiAbove y) rs (fun a _ h9 => by
          unfold hiAbove at h9 ⊢
          cases hfa : formB a with
          | none => rw [hfa] at h9; cases h9
          | some t => rw [hfa] at h9; exact decide_eq_true (h3.trans (of_decide_eq_true h9))) ⟨r, hr, by unfold hiAbove; rw [hf]; exact decide_eq_true h3, by unfold hiAbove; rw [hf]; exact decide_eq_false (LtB.irrefl _)⟩
        omega) hk hu2 h4
      exact ⟨r', hr', f', hf', a1, h3.trans a2, a3, a4⟩
def stepC (rs : List Rg) (k : List UInt8) (held : Bool) (out : List UInt8) (r : Rg) : List UInt8 := match formB r with
  | none => out
  | some f => if candB rs k held (endB held f) && (decide (out = []) || decide (LtB (endB held f) out)) then endB held f else out
theorem LeastC.step {rs seen : List Rg} {k out : List UInt8} {held : Bool} (h : LeastC rs k held seen out) (r : Rg) : LeastC rs k held (seen ++ [r]) (stepC rs k held out r) := by
  unfold stepC
  cases hf : formB r with
  | none =>
    refine ⟨fun hne => ?_, fun t ht f hft hc => ?_⟩
    · obtain ⟨t, ht, h1⟩ := h.is hne
      exact ⟨t, List.mem_append_left _ ht, h1⟩
    · rcases List.mem_append.1 ht with ht | ht
      · exact h.le t ht f hft hc
      · rw [List.mem_singleton.1 ht, hf] at hft
        cases hft
  | some f0 =>
    dsimp only
    by_cases hc0 : (candB rs k held (endB held f0) && (decide (out = []) || decide (LtB (endB held f0) out))) = true
    · rw [if_pos hc0]
      simp only [Bool.and_eq_true, Bool.or_eq_true, decide_eq_true_eq] at hc0
      refine ⟨fun _ => ⟨r, List.mem_append_right _ (List.mem_singleton.2 rfl), f0, hf, rfl, hc0.1⟩, fun t ht f hft hc => ⟨(candB_iff.1 hc0.1).1, ?_⟩⟩
      rcases List.mem_append.1 ht with ht | ht
      · obtain ⟨h1, h2⟩ := h.le t ht f hft hc
        exact (hc0.2.resolve_left h1).le.trans h2
      · rw [List.mem_singleton.1 ht, hf] at hft
        injection hft with hft
        rw [hft]
        exact LeB.refl _
    · rw [if_neg hc0]
      refine ⟨fun hne => ?_, fun t ht f hft hc => ?_⟩
      · obtain ⟨t, ht, h1⟩ := h.is hne
        exact ⟨t, List.mem_append_left _ ht, h1⟩
      · rcases List.mem_append.1 ht with ht | ht
        · exact h.le t ht f hft hc
        · rw [List.mem_singleton.1 ht, hf] at hft
          injection hft with hft
          subst hft
          simp only [hc, Bool.true_and, Bool.or_eq_true, decide_eq_true_eq, not_or] at hc0
          exact ⟨hc0.1, LtB.not.1 hc0.2⟩
theorem end_key {f : Rg} (h : Okf f) {held : Bool} (hne : endB held f ≠ []) : isKeyB (endB held f) = true := by
  unfold endB at hne ⊢
  cases held with
  | true => exact h.key
  | false =>
    simp only [Bool.false_eq_true, if_false] at hne ⊢
    cases ho : f.op with
    | true => exact absurd (h.op ho) hne
    | false => exact (h.hi ho).1
theorem edge_of {rs : List Rg} {k out : List UInt8} {held : Bool} (hk : isKeyB k = true) (hu : anyB rs k = !held) (h : LeastC rs k held rs out) : EdgeOf rs k held out := by
  refine ⟨fun hne => ?_, fun x hx hkx ho => ?_⟩
  · obtain ⟨r, hr, f, hf, h1, h2⟩ := h.is hne
    obtain ⟨_, h3, h4⟩ := candB_iff.1 h2
    exact ⟨by rw [h1] at hne ⊢; exact end_key (formB_ok hf) hne, h3, h4⟩
  · cases hax : anyB rs x with
    | true =>
      cases held with
      | false => rfl
      | true =>
        exfalso
        obtain ⟨r, hr, f, hf, h1, h2⟩ := key_in hx hax
        have hok := formB_ok hf
        have h3 : LeB k f.lo := LtB.not.1 fun h9 => by
          have := in_key hr hf hk h9.le (h2.imp id fun h8 => hkx.trans_lt h8)
          rw [hu] at this
          cases this
        have h4 : anyB rs f.lo = true := in_key hr hf hok.key (LeB.refl _) (((hasB_iff _ _).1 hok.has_lo).2.2)
        obtain ⟨h5, h6⟩ := h.le r hr f hf (candB_iff.2 ⟨key_nn hok.key, h3, h4⟩)
        rcases ho with ho | ho
        · exact h5 ho
        · exact LtB.irrefl _ (ho.trans_le (h6.trans h1))
    | false =>
      cases held with
      | true => rfl
      | false =>
        exfalso
        obtain ⟨r, hr, f, hf, h1, h2, h3, h4⟩ := hi_chain hx hax _ k (Nat.le_refl _) hk hu hkx
        obtain ⟨h5, h6⟩ := h.le r hr f hf (candB_iff.2 ⟨key_nn ((formB_ok hf).hi h1).1, h2.le, h4⟩)
        rcases ho with ho | ho
        · exact h5 ho
        · exact LtB.irrefl _ (ho.trans_le (h6.trans h3))
theorem edge_here {rs : List Rg} {k : List UInt8} {held : Bool} (hk : isKeyB k = true) (hu : anyB rs k = held) : EdgeOf rs k held k :=
  ⟨fun _ => ⟨hk, LeB.refl _, hu⟩, fun x _ h1 h2 => by
    rcases h2 with h2 | h2
    · exact absurd h2 (key_nn hk)
    · exact absurd (h1.trans_lt h2) (LtB.irrefl _)⟩
/-- The state of the reference's loop. -/
structure RInv (rs : List Rg) (k : List UInt8) (out : List Rg) : Prop where
  key : isKeyB k = true
  canon : Canon out
  low : ∀ x, isKeyB x = true → LtB x k → anyB out x = anyB rs x
  his : ∀ r ∈ out, r.op = false ∧ LeB r.hi k
  gap : out = [] ∨ anyB rs k = false
theorem RInv.high {rs out : List Rg} {k x : List UInt8} (h : RInv rs k out) (hx : LeB k x) : anyB out x = false := by
  cases ha : anyB out x with
  | false => rfl
  | true =>
    exfalso
    obtain ⟨r, hr, h1⟩ := anyB_iff.1 ha
    have h2 := h.his r hr
    rcases ((hasB_iff _ _).1 h1).2.2 with h3 | h3
    · rw [h2.1] at h3; cases h3
    · exact LtB.irrefl _ (h3.trans_le (h2.2.trans hx))
theorem RInv.start (rs : List Rg) : RInv rs [0] [] := by
  refine ⟨by decide, canon_nil, fun x hx h => ?_, fun r h => (by cases h), .inl rfl⟩
  exfalso
  cases x with
  | nil => exact key_nn hx rfl
  | cons b t =>
    rcases LtB.cons.1 h with h1 | ⟨_, h1⟩
    · have := UInt8.lt_iff_toNat_lt.1 h1
      simp at this
    · exact LtB.not_nil h1
theorem RInv.done {rs out : List Rg} {k : List UInt8} (h : RInv rs k out) (he : EdgeOf rs k true []) : CovOf rs out := by
  refine ⟨h.canon, fun x hx => ?_⟩
  by_cases hc : LtB x k
  · exact h.low x hx hc
  · rw [h.high (LtB.not.1 hc), he.below x hx (LtB.not.1 hc) (.inl rfl)]; rfl
theorem RInv.lt {rs out : List Rg} {k lo : List UInt8} (h : RInv rs k out) (he : EdgeOf rs k true lo) (hne : lo ≠ []) : ∀ r ∈ out, r.op = false ∧ LtB r.hi lo := by
  intro r hr
  obtain ⟨h1, h2, h3⟩ := he.is hne
  have h4 := h.his r hr
  refine ⟨h4.1, h4.2.trans_lt ?_⟩
  rcases h2.or with h5 | h5
  · exact h5
  · exfalso
    rcases h.gap with h6 | h6
    · rw [h6] at hr; cases hr
    · rw [h5, h3] at h6; cases h6
theorem snoc_canon {out : List Rg} {f : Rg} (h : Canon out) (hf : Okf f) (hl : ∀ r ∈ out, r.op = false ∧ LtB r.hi f.lo) : Canon (out ++ [f]) := by
  refine ⟨fun r hr => ?_, List.pairwise_append.2 ⟨h.2, List.pairwise_singleton _ _, fun a ha b hb => ?_⟩⟩
  · rcases List.mem_append.1 hr with hr | hr
    · exact h.1 r hr
    · rw [List.mem_singleton.1 hr]; exact hf
  · rw [List.mem_singleton.1 hb]
    exact hl a ha
/-- The union below lo, with an edge. -/
theorem RInv.upto {rs out : List Rg} {k lo x : List UInt8} (h : RInv rs k out) (he : EdgeOf rs k true lo) (hx : isKeyB x = true) (hl : LtB x lo) : anyB out x = anyB rs x := by
  by_cases hc : LtB x k
  · exact h.low x hx hc
  · rw [h.high (LtB.not.1 hc), he.below x hx (LtB.not.1 hc) (.inr hl)]; rfl
theorem RInv.openEnd {rs out : List Rg} {k lo : List UInt8} (h : RInv rs k out) (he : EdgeOf rs k true lo) (hne : lo ≠ []) (h2 : EdgeOf rs lo false []) : CovOf rs (out ++ [⟨lo, [], true⟩]) := by
  obtain ⟨hk, hkl, hu⟩ := he.is hne
  refine ⟨snoc_canon h.canon ⟨hk, fun _ => rfl, fun h9 => (by cases h9)⟩ (h.lt he hne), fun x hx => ?_⟩
  rw [anyB_app, anyB_cons]
  by_cases hc : LtB x lo
  · have e : hasB ⟨lo, [], true⟩ x = false := by
      cases h9 : hasB ⟨lo, [], true⟩ x with
      | false => rfl
      | true => exact absurd (hc.trans_le ((hasB_iff _ _).1 h9).2.1) (LtB.irrefl _)
    rw [h.upto he hx hc, e]
    simp [anyB]
  · have e : hasB ⟨lo, [], true⟩ x = true := (hasB_iff _ _).2 ⟨hx, LtB.not.1 hc, .inl rfl⟩
    rw [e, h2.below x hx (LtB.not.1 hc) (.inl rfl)]
    simp
theorem RInv.next {rs out : List Rg} {k lo hi : List UInt8} (h : RInv rs k out) (he : EdgeOf rs k true lo) (hne : lo ≠ []) (h2 : EdgeOf rs lo false hi) (hn2 : hi ≠ []) : RInv rs hi (out ++ [⟨lo, hi, false⟩]) ∧ LtB k hi := by
  obtain ⟨hk, hkl, hu⟩ := he.is hne
  obtain ⟨hk2, hkl2, hu2⟩ := h2.is hn2
  have hlt : LtB lo hi := by
    rcases hkl2.or with h5 | h5
    · exact h5
    · rw [← h5, hu] at hu2; cases hu2
  refine ⟨⟨hk2, snoc_canon h.canon ⟨hk, fun h9 => (by cases h9), fun _ => ⟨hk2, hlt⟩⟩ (h.lt he hne), fun x hx hxl => ?_, fun r hr => ?_, .inr hu2⟩, hkl.trans_lt hlt⟩
  · rw [anyB_app, anyB_cons]
    by_cases hc : LtB x lo
    · have e : hasB ⟨lo, hi, false⟩ x = false := by
        cases h9 : hasB ⟨lo, hi, false⟩ x with
        | false => rfl
        | true => exact absurd (hc.trans_le ((hasB_iff _ _).1 h9).2.1) (LtB.irrefl _)
      rw [h.upto he hx hc, e]
      simp [anyB]
    · have e : hasB ⟨lo, hi, false⟩ x = true := (hasB_iff _ _).2 ⟨hx, LtB.not.1 hc, .inr hxl⟩
      rw [e, h2.below x hx (LtB.not.1 hc) (.inr hxl)]
      simp
  · rcases List.mem_append.1 hr with hr | hr
    · have h9 := h.his r hr
      exact ⟨h9.1, h9.2.trans (hkl.trans hlt.le)⟩
    · rw [List.mem_singleton.1 hr]
      exact ⟨rfl, LeB.refl _⟩
end Go.Proofs.Ytijlaknfagpglaa

namespace Go.Proofs.Ytijlaknfagpglaa
open Go.RowKit Go.Proofs
set_option linter.unusedVariables false
set_option maxHeartbeats 4000000 in
theorem rin_any {A C : Option Addr} {c d n m : Nat} {fs : List Fr} {k : List UInt8} {w : World} (h : RowR w A fs) (hk : Sl w C d k) (hn : n = fs.length) (hm : m = k.length) (hsz : n ≤ 1048576) :
    Calls Try.prog 77 #[.slice A n c, .slice C m d] w fun e w' => e = .returned (.bool (anyB (fs.map rg) k)) ∧ Ext w w' := by
  subst hm
  have HN := Lib.hid hn
  clear hn
  go_enter Try.func77, Try.ntmps77
  go_wp2
  go_loopw [5] (fun ii wr => ∃ i : Nat, i ≤ n ∧ ii = .int .i64 i ∧ Hid (anyB ((fs.take i).map rg) k = false) ∧ Ext w wr) (fun ii _ => n - (intOf ii).toNat)
  case atStart => exact ⟨0, Nat.zero_le _, rfl, Lib.hid rfl, Below.refl _ _⟩
  case round =>
    obtain ⟨i, hin, rfl, HA, hE⟩ := hrel
    by_cases hlt : i < n
    · have hki : (i : Int) < (n : Int) := by omega
      obtain ⟨g, o, rfl, hrd⟩ := h.rd (by have := HN.out; omega)
      obtain ⟨t, ht⟩ : ∃ t, fs[i]? = some t := ⟨_, List.getElem?_eq_getElem (by have := HN.out; omega)⟩
      have k1 := (hrd i t ht).ext hE
      obtain ⟨s1, s2⟩ := h.ls t (List.mem_of_getElem? ht)
      have HT := Lib.hid (show (fs.take (i + 1)).map rg = (fs.take i).map rg ++ [rg t] by rw [List.take_add_one, ht]; simp)
      have HIN := Lib.hid (show hasB (rg t) k = true → anyB (fs.map rg) k = true from fun h9 => anyB_iff.2 ⟨rg t, List.mem_map.2 ⟨t, List.mem_of_getElem? ht, rfl⟩, h9⟩)
      clear ht hrd
      obtain ⟨b, hb⟩ : ∃ b, hasB (rg t) k = b := ⟨_, rfl⟩
      have HB := Lib.hid hb
      have a0 := k1.c0
      have a1 := k1.c1
      have a2 := k1.c2
      obtain ⟨lA, lc, lo, hA, hc, hi, op⟩ := t
      dsimp only at a0 a1 a2 s1 s2
      clear hb
      go_wp2_with fail
      refine (rhas_any (s1.ext hE) (s2.ext hE) (hk.ext hE) rfl).mono ?_
      rintro e w3 ⟨rfl, hE4⟩
      rw [show hasB ⟨lo, hi, op⟩ k = b from HB.out]
      have hE5 := hE.trans hE4
      cases b with
      | true =>
        have HR := Lib.hid (HIN.out HB.out)
        go_wp2
        go_ret
        exact ⟨ret_bool (by rw [HR.out]), hE5⟩
      | false =>
        have HA2 := Lib.hid (show anyB ((fs.take (i + 1)).map rg) k = false by rw [HT.out, anyB_app, HA.out, anyB_cons, HB.out]; rfl)
        go_wp2
        go_roundw
        case rel => exact ⟨i + 1, by omega, by go_num, HA2, hE5⟩
        case measure => simp [intOf]; omega
    · have hki : ¬ (i : Int) < (n : Int) := by omega
      have HR := Lib.hid (show anyB (fs.map rg) k = false by
        have h1 := HA.out
        rwa [List.take_of_length_le (by have := HN.out; omega)] at h1)
      go_wp2
      go_ret
      exact ⟨ret_bool (by rw [HR.out]), hE⟩
end Go.Proofs.Ytijlaknfagpglaa

namespace Go.Proofs.Ytijlaknfagpglaa
open Go.RowKit Go.Proofs
set_option linter.unusedVariables false
set_option linter.unusedSimpArgs false
theorem candB_no {rs : List Rg} {k c : List UInt8} {held : Bool} (h : c = [] ∨ LtB c k ∨ anyB rs c = !held) : candB rs k held c = false := by
  cases hc : candB rs k held c with
  | false => rfl
  | true =>
    obtain ⟨h1, h2, h3⟩ := candB_iff.1 hc
    rcases h with h | h | h
    · exact absurd h h1
    · exact absurd h2 (LeB.not.2 h)
    · rw [h3] at h; cases held <;> cases h
theorem stepC_none {rs : List Rg} {k out : List UInt8} {held : Bool} {r : Rg} (h : formB r = none) : stepC rs k held out r = out := by unfold stepC; rw [h]
theorem stepC_no {rs : List Rg} {k out c : List UInt8} {held : Bool} {r f : Rg} (h : formB r = some f) (hc : endB held f = c) (hn : c = [] ∨ LtB c k ∨ anyB rs c = !held) : stepC rs k held out r = out := by
  unfold stepC
  rw [h]
  dsimp only
  rw [hc, candB_no hn]
  rfl
theorem stepC_late {rs : List Rg} {k out c : List UInt8} {held : Bool} {r f : Rg} (h : formB r = some f) (hc : endB held f = c) (h0 : out ≠ []) (h1 : LeB out c) : stepC rs k held out r = out := by
  unfold stepC
  rw [h]
  dsimp only
  rw [hc, if_neg]
  simp only [Bool.and_eq_true, Bool.or_eq_true, decide_eq_true_eq, not_and, not_or]
  exact fun _ => ⟨h0, LtB.not.2 h1⟩
theorem stepC_yes {rs : List Rg} {k out c : List UInt8} {held : Bool} {r f : Rg} (h : formB r = some f) (hc : endB held f = c) (h0 : c ≠ []) (h1 : LeB k c) (h2 : anyB rs c = held) (h3 : out = [] ∨ LtB c out) : stepC rs k held out r = c := by
  unfold stepC
  rw [h]
  dsimp only
  rw [hc, if_pos]
  simp only [Bool.and_eq_true, Bool.or_eq_true, decide_eq_true_eq]
  exact ⟨candB_iff.2 ⟨h0, h1, h2⟩, h3⟩
theorem end_len {r f : Rg} {held : Bool} (h : formB r = some f) : (endB held f).length ≤ 24 := by
  have hk := formB_ok h
  by_cases e : endB held f = []
  · rw [e]; simp
  · exact (isKeyB_iff.1 (end_key hk e)).2
theorem LeastC.len {rs seen : List Rg} {k out : List UInt8} {held : Bool} (h : LeastC rs k held seen out) : out.length ≤ 24 := by
  by_cases e : out = []
  · rw [e]; simp
  · obtain ⟨r, _, f, hf, he, _⟩ := h.is e
    rw [he]
    exact end_len hf
set_option maxRecDepth 8000 in
set_option maxHeartbeats 8000000 in
theorem redge_any {A C : Option Addr} {c d n m : Nat} {fs : List Fr} {k : List UInt8} {held : Bool} {w : World} (h : RowR w A fs) (hk : Sl w C d k) (hn : n = fs.length) (hm : m = k.length) (hsz : n ≤ 1048576) (hkey : isKeyB k = true) :
    Calls Try.prog 74 #[.slice A n c, .slice C m d, .bool held] w fun e w' => ∃ A' c' o, e = .returned (.slice A' o.length c') ∧ Own 5 w.heap.size w' A' c' o ∧ EdgeOf (fs.map rg) k held o ∧ (anyB (fs.map rg) k = (!held) → o ≠ [] → ∃ r ∈ fs.map rg, ∃ f, formB r = some f ∧ o = endB held f) ∧ Ext w w' := by
  subst hm
  have HN := Lib.hid hn
  clear hn
  have HK := Lib.hid hkey
  clear hkey
  obtain ⟨RS, hRS⟩ : ∃ q, fs.map rg = q := ⟨_, rfl⟩
  have HRS := Lib.hid hRS
  rw [hRS]
  obtain ⟨b, hb⟩ : ∃ q, anyB RS k = q := ⟨_, rfl⟩
  have HB := Lib.hid hb
  go_enter Try.func74, Try.ntmps74
  go_wp2_with fail
  refine (rin_any (n := n) (m := k.length) h hk HN.out rfl hsz).mono ?_
  rintro e w1 ⟨rfl, hE1⟩
  rw [hRS, hb]
  clear hb hRS
  by_cases hbh : b = held
  · have HBH := Lib.hid hbh
    obtain rfl := hbh
    have hbb : (b == b) = true := by cases b <;> rfl
    go_wp2_with fail
    refine (cpy_any (hk.ext hE1) rfl).mono ?_
    rintro e w2 ⟨A2, c2, rfl, ho, hE2⟩
    have ho2 := Own.mono ho hE1.size
    have hE3 := hE1.trans hE2
    clear hbb
    go_wp2
    go_ret
    exact ⟨_, _, k, rfl, ho2, edge_here HK.out HB.out, fun h9 => (by rw [HB.out] at h9; cases b <;> cases h9), hE3⟩
  · have hbn : b = !held := by cases b <;> cases held <;> first | rfl | exact absurd rfl hbh
    have hbb : (b == held) = false := by cases b <;> cases held <;> first | rfl | exact absurd rfl hbh
    have HBN := Lib.hid (show anyB RS k = !held by rw [HB.out, hbn])
    clear hbn hbh
    go_wp2
    clear hbb
    go_loopw [7, 8] (fun v i wr => ∃ (j : Nat) (A9 : Option Addr) (c9 : Nat) (o : List UInt8), j ≤ n ∧ i = .int .i64 j ∧ v = .slice A9 o.length c9 ∧ Own 5 w.heap.size wr A9 c9 o ∧ Hid (LeastC RS k held (RS.take j) o) ∧ Ext w wr) (fun _ i _ => n - (intOf i).toNat)
    case atStart => exact ⟨0, _, _, [], Nat.zero_le _, rfl, rfl, ⟨rfl, .inr ⟨w1.heap.size, 0, #[], rfl, hE1.size, heap_alloc_new _ _, Nat.le_refl _, by decide, rfl, rfl⟩⟩, Lib.hid (by rw [List.take_zero]; exact LeastC.nil RS k held), hE1.trans (ext_alloc _ _)⟩
    case round =>
      clear hE1
      obtain ⟨j, A9, c9, o, hjn, rfl, rfl, ho, HL, hE⟩ := hrel
      have hol := HL.out.len
      have hosl := ho.sl (Nat.le_trans hol (by omega))
      by_cases hlt : j < n
      · have hki : (j : Int) < (n : Int) := by omega
        obtain ⟨g, of, rfl, hrd⟩ := h.rd (by have := HN.out; omega)
        obtain ⟨t, ht⟩ : ∃ t, fs[j]? = some t := ⟨_, List.getElem?_eq_getElem (by have := HN.out; omega)⟩
        have k1 := (hrd j t ht).ext hE
        obtain ⟨s1, s2⟩ := h.ls t (List.mem_of_getElem? ht)
        have HST := Lib.hid (show LeastC RS k held (RS.take (j + 1)) (stepC RS k held o (rg t)) by
          have e1 : RS.take (j + 1) = RS.take j ++ [rg t] := by rw [← HRS.out, List.take_add_one, List.getElem?_map, ht]; simp
          rw [e1]
          exact HL.out.step (rg t))
        clear ht hrd
        have a0 := k1.c0
        have a1 := k1.c1
        have a2 := k1.c2
        obtain ⟨lA, lc, lo, hA, hc, hi, op⟩ := t
        dsimp only at a0 a1 a2 s1 s2
        go_wp2_with fail
        refine (ends_any (s1.ext hE) (s2.ext hE)).mono ?_
        rintro e w3 ⟨A3, c3', B3, d3, r, hr, rfl, hR, hE3⟩
        obtain ⟨fo, hfo⟩ : ∃ q, formB ⟨lo, hi, op⟩ = q := ⟨_, rfl⟩
        rw [hfo] at hr ⊢
        have HFO := Lib.hid hfo
        have hEb := hE.trans hE3
        have ho3 := ho.ext hE3
        have hosl3 := hosl.ext hE3
        clear hfo
        cases fo with
        | none =>
          have HL2 := Lib.hid (show LeastC RS k held (RS.take (j + 1)) o by have h9 := HST.out; rwa [stepC_none (r := rg ⟨lA, lc, lo, hA, hc, hi, op⟩) HFO.out] at h9)
          simp only [Option.isSome_none]
          clear hr
          go_wp2
          go_roundw
          case rel => exact ⟨j + 1, A9, c9, o, by omega, by go_num, rfl, ho3, HL2, hEb⟩
          case measure => simp [intOf]; omega
        | some f =>
          obtain rfl : r = f := hr
          simp only [Option.isSome_some]
          cases held with
          | false =>
            obtain ⟨X, hX⟩ : ∃ q, r.hi = q := ⟨_, rfl⟩
            have HX := Lib.hid (show endB false r = X from hX)
            have hoX0 := hR.2.1
            rw [hX] at hoX0 ⊢
            have hXl : X.length ≤ 24 := by rw [← hX]; exact end_len (held := false) HFO.out
            have hoX := Own.mono hoX0 hE.size
            have sX := hoX0.sl (Nat.le_trans hXl (by omega))
            clear hX hR hoX0
            by_cases h0 : X = []
            · have HL2 := Lib.hid (show LeastC RS k false (RS.take (j + 1)) o by have h9 := HST.out; rwa [stepC_no (r := rg ⟨lA, lc, lo, hA, hc, hi, op⟩) HFO.out HX.out (.inl h0)] at h9)
              subst h0
              go_wp2
              go_roundw
              case rel => exact ⟨j + 1, A9, c9, o, by omega, by go_num, rfl, ho3, HL2, hEb⟩
              case measure => simp [intOf]; omega
            · have hX0 : 0 < X.length := List.length_pos_iff.2 h0
              go_wp2_with fail
              refine (cmp_any sX (hk.ext hEb) rfl rfl).mono ?_
              rintro e w4 ⟨rfl, hE4⟩
              have hEc := hEb.trans hE4
              have ho4 := ho3.ext hE4
              by_cases h1 : cmpB X k < 0
              · have HL2 := Lib.hid (show LeastC RS k false (RS.take (j + 1)) o by have h9 := HST.out; rwa [stepC_no (r := rg ⟨lA, lc, lo, hA, hc, hi, op⟩) HFO.out HX.out (.inr (.inl h1))] at h9)
                have h1n : ¬ 0 ≤ cmpB X k := by omega
                go_wp2
                go_roundw
                case rel => exact ⟨j + 1, A9, c9, o, by omega, by go_num, rfl, ho4, HL2, hEc⟩
                case measure => simp [intOf]; omega
              · have h1n : 0 ≤ cmpB X k := by omega
                have H1 := Lib.hid (ge_iff.1 h1n)
                clear h1
                go_wp2_with fail
                refine (rin_any (n := n) (m := X.length) (h.ext hEc) (sX.ext hE4) HN.out rfl hsz).mono ?_
                rintro e w5 ⟨rfl, hE5⟩
                obtain ⟨b2, hb2⟩ : ∃ q, anyB RS X = q := ⟨_, rfl⟩
                have HB2 := Lib.hid hb2
                rw [HRS.out, hb2]
                clear hb2
                have hEd := hEc.trans hE5
                have ho5 := ho4.ext hE5
                have hoX5 := (hoX.ext hE4).ext hE5
                cases b2 with
                | true =>
                  have HL2 := Lib.hid (show LeastC RS k false (RS.take (j + 1)) o by have h9 := HST.out; rwa [stepC_no (r := rg ⟨lA, lc, lo, hA, hc, hi, op⟩) HFO.out HX.out (.inr (.inr HB2.out))] at h9)
                  go_wp2
                  go_roundw
                  case rel => exact ⟨j + 1, A9, c9, o, by omega, by go_num, rfl, ho5, HL2, hEd⟩
                  case measure => simp [intOf]; omega
                | false =>
                  by_cases h2 : o = []
                  · have HL2 := Lib.hid (show LeastC RS k false (RS.take (j + 1)) X by have h9 := HST.out; rwa [stepC_yes (r := rg ⟨lA, lc, lo, hA, hc, hi, op⟩) HFO.out HX.out h0 H1.out HB2.out (.inl h2)] at h9)
                    subst h2
                    go_wp2
                    go_roundw
                    case rel => exact ⟨j + 1, B3, d3, X, by omega, by go_num, rfl, hoX5, HL2, hEd⟩
                    case measure => simp [intOf]; omega
                  · have ho0 : 0 < o.length := List.length_pos_iff.2 h2
                    have hob : ((o.length : Int) == 0) = false := by simp only [beq_eq_false_iff_ne]; omega
                    go_wp2_with fail
                    refine (cmp_any ((sX.ext hE4).ext hE5) ((hosl3.ext hE4).ext hE5) rfl rfl).mono ?_
                    rintro e w6 ⟨rfl, hE6⟩
                    have hEe := hEd.trans hE6
                    by_cases h3 : cmpB X o < 0
                    · have HL2 := Lib.hid (show LeastC RS k false (RS.take (j + 1)) X by have h9 := HST.out; rwa [stepC_yes (r := rg ⟨lA, lc, lo, hA, hc, hi, op⟩) HFO.out HX.out h0 H1.out HB2.out (.inr h3)] at h9)
                      have hoX6 := hoX5.ext hE6
                      go_wp2
                      go_roundw
                      case rel => exact ⟨j + 1, B3, d3, X, by omega, by go_num, rfl, hoX6, HL2, hEe⟩
                      case measure => simp [intOf]; omega
                    · have HL2 := Lib.hid (show LeastC RS k false (RS.take (j + 1)) o by have h9 := HST.out; rwa [stepC_late (r := rg ⟨lA, lc, lo, hA, hc, hi, op⟩) HFO.out HX.out h2 (LtB.not.1 h3)] at h9)
                      have ho6 := ho5.ext hE6
                      have h3n : 0 ≤ cmpB X o := by omega
                      go_wp2
                      go_roundw
                      case rel => exact ⟨j + 1, A9, c9, o, by omega, by go_num, rfl, ho6, HL2, hEe⟩
                      case measure => simp [intOf]; omega
          | true =>
            obtain ⟨X, hX⟩ : ∃ q, r.lo = q := ⟨_, rfl⟩
            have HX := Lib.hid (show endB true r = X from hX)
            have hoX0 := hR.1
            rw [hX] at hoX0 ⊢
            have hXl : X.length ≤ 24 := by rw [← hX]; exact end_len (held := true) HFO.out
            have hoX := Own.mono hoX0 hE.size
            have sX := hoX0.sl (Nat.le_trans hXl (by omega))
            clear hX hR hoX0
            by_cases h0 : X = []
            · have HL2 := Lib.hid (show LeastC RS k true (RS.take (j + 1)) o by have h9 := HST.out; rwa [stepC_no (r := rg ⟨lA, lc, lo, hA, hc, hi, op⟩) HFO.out HX.out (.inl h0)] at h9)
              subst h0
              go_wp2
              go_roundw
              case rel => exact ⟨j + 1, A9, c9, o, by omega, by go_num, rfl, ho3, HL2, hEb⟩
              case measure => simp [intOf]; omega
            · have hX0 : 0 < X.length := List.length_pos_iff.2 h0
              go_wp2_with fail
              refine (cmp_any sX (hk.ext hEb) rfl rfl).mono ?_
              rintro e w4 ⟨rfl, hE4⟩
              have hEc := hEb.trans hE4
              have ho4 := ho3.ext hE4
              by_cases h1 : cmpB X k < 0
              · have HL2 := Lib.hid (show LeastC RS k true (RS.take (j + 1)) o by have h9 := HST.out; rwa [stepC_no (r := rg ⟨lA, lc, lo, hA, hc, hi, op⟩) HFO.out HX.out (.inr (.inl h1))] at h9)
                have h1n : ¬ 0 ≤ cmpB X k := by omega
                go_wp2
                go_roundw
                case rel => exact ⟨j + 1, A9, c9, o, by omega, by go_num, rfl, ho4, HL2, hEc⟩
                case measure => simp [intOf]; omega
              · have h1n : 0 ≤ cmpB X k := by omega
                have H1 := Lib.hid (ge_iff.1 h1n)
                clear h1
                go_wp2_with fail
                refine (rin_any (n := n) (m := X.length) (h.ext hEc) (sX.ext hE4) HN.out rfl hsz).mono ?_
                rintro e w5 ⟨rfl, hE5⟩
                obtain ⟨b2, hb2⟩ : ∃ q, anyB RS X = q := ⟨_, rfl⟩
                have HB2 := Lib.hid hb2
                rw [HRS.out, hb2]
                clear hb2
                have hEd := hEc.trans hE5
                have ho5 := ho4.ext hE5
                have hoX5 := (hoX.ext hE4).ext hE5
                cases b2 with
                | false =>
                  have HL2 := Lib.hid (show LeastC RS k true (RS.take (j + 1)) o by have h9 := HST.out; rwa [stepC_no (r := rg ⟨lA, lc, lo, hA, hc, hi, op⟩) HFO.out HX.out (.inr (.inr HB2.out))] at h9)
                  go_wp2
                  go_roundw
                  case rel => exact ⟨j + 1, A9, c9, o, by omega, by go_num, rfl, ho5, HL2, hEd⟩
                  case measure => simp [intOf]; omega
                | true =>
                  by_cases h2 : o = []
                  · have HL2 := Lib.hid (show LeastC RS k true (RS.take (j + 1)) X by have h9 := HST.out; rwa [stepC_yes (r := rg ⟨lA, lc, lo, hA, hc, hi, op⟩) HFO.out HX.out h0 H1.out HB2.out (.inl h2)] at h9)
                    subst h2
                    go_wp2
                    go_roundw
                    case rel => exact ⟨j + 1, A3, c3', X, by omega, by go_num, rfl, hoX5, HL2, hEd⟩
                    case measure => simp [intOf]; omega
                  · have ho0 : 0 < o.length := List.length_pos_iff.2 h2
                    have hob : ((o.length : Int) == 0) = false := by simp only [beq_eq_false_iff_ne]; omega
                    go_wp2_with fail
                    refine (cmp_any ((sX.ext hE4).ext hE5) ((hosl3.ext hE4).ext hE5) rfl rfl).mono ?_
                    rintro e w6 ⟨rfl, hE6⟩
                    have hEe := hEd.trans hE6
                    by_cases h3 : cmpB X o < 0
                    · have HL2 := Lib.hid (show LeastC RS k true (RS.take (j + 1)) X by have h9 := HST.out; rwa [stepC_yes (r := rg ⟨lA, lc, lo, hA, hc, hi, op⟩) HFO.out HX.out h0 H1.out HB2.out (.inr h3)] at h9)
                      have hoX6 := hoX5.ext hE6
                      go_wp2
                      go_roundw
                      case rel => exact ⟨j + 1, A3, c3', X, by omega, by go_num, rfl, hoX6, HL2, hEe⟩
                      case measure => simp [intOf]; omega
                    · have HL2 := Lib.hid (show LeastC RS k true (RS.take (j + 1)) o by have h9 := HST.out; rwa [stepC_late (r := rg ⟨lA, lc, lo, hA, hc, hi, op⟩) HFO.out HX.out h2 (LtB.not.1 h3)] at h9)
                      have ho6 := ho5.ext hE6
                      have h3n : 0 ≤ cmpB X o := by omega
                      go_wp2
                      go_roundw
                      case rel => exact ⟨j + 1, A9, c9, o, by omega, by go_num, rfl, ho6, HL2, hEe⟩
                      case measure => simp [intOf]; omega
      · have hki : ¬ (j : Int) < (n : Int) := by omega
        have HR := Lib.hid (show LeastC RS k held RS o by
          have h1 := HL.out
          rwa [List.take_of_length_le (by rw [← HRS.out, List.length_map]; have := HN.out; omega)] at h1)
        go_wp2
        go_ret
        exact ⟨_, _, o, rfl, ho, edge_of HK.out HBN.out HR.out, fun _ hne => (by
          obtain ⟨r, h1, f, h2, h3, _⟩ := HR.out.is hne
          exact ⟨r, h1, f, h2, h3⟩), hE⟩
end Go.Proofs.Ytijlaknfagpglaa

namespace Go.Proofs.Ytijlaknfagpglaa
open Go.RowKit Go.Proofs
set_option linter.unusedVariables false
set_option linter.unusedSimpArgs false
def slen : Value → Nat
  | .slice _ n _ => n
  | _ => 0
theorem hi_falls {RS : List Rg} {k hi : List UInt8} (h : LtB k hi) (he : ∃ r ∈ RS, ∃ f, formB r = some f ∧ hi = endB false f) : RS.countP (hiAbove hi) < RS.countP (hiAbove k) := by
  obtain ⟨r, hr, f, hf, h1⟩ := he
  have h2 : hi = f.hi := h1
  subst h2
  refine countP_lt RS (fun a _ h9 => ?_) ⟨r, hr, by unfold hiAbove; rw [hf]; exact decide_eq_true h, by unfold hiAbove; rw [hf]; exact decide_eq_false (LtB.irrefl _)⟩
  unfold hiAbove at h9 ⊢
  cases hfa : formB a with
  | none => rw [hfa] at h9; cases h9
  | some t => rw [hfa] at h9; exact decide_eq_true (h.trans (of_decide_eq_true h9))
theorem nil_of_len {l : List UInt8} (h : l.length = 0) : l = [] := List.eq_nil_of_length_eq_zero h
set_option maxRecDepth 8000 in
set_option maxHeartbeats 8000000 in
theorem rcover_any {A : Option Addr} {c n : Nat} {fs : List Fr} {w : World} (h : RowR w A fs) (hn : n = fs.length) (hsz : n ≤ 1048576) :
    Calls Try.prog 63 #[.slice A n c] w fun e w' => ∃ v os, e = .returned v ∧ w'.ownsRow w.heap.size 32 3 v os.length (os.flatMap c3) ∧ OwnL w.heap.size w' os ∧ CovOf (fs.map rg) (os.map rg) ∧ os.length ≤ n + 1 ∧ Ext w w' := by
  obtain ⟨i0, hti, hz0, hz1, hz2⟩ := info_parts infoRg
  have HN := Lib.hid hn
  clear hn
  obtain ⟨RS, hRS⟩ : ∃ q, fs.map rg = q := ⟨_, rfl⟩
  have HRS := Lib.hid hRS
  have HRL := Lib.hid (show RS.length = n by rw [← hRS, List.length_map]; exact HN.out.symm)
  rw [hRS]
  clear hRS
  go_enter Try.func63, Try.ntmps63
  go_wp2
  go_loopw [3, 4] (fun v kv wr => Ext w wr ∧ ∃ (A9 : Option Addr) (c9 : Nat) (k : List UInt8) (os : List Fr), kv = .slice A9 k.length c9 ∧ os.length ≤ n ∧ Own 5 w.heap.size wr A9 c9 k ∧ wr.ownsRow w.heap.size 32 3 v os.length (os.flatMap c3) ∧ Hid (OwnL w.heap.size wr os) ∧ Hid (RInv RS k (os.map rg)) ∧ Hid (os.length + RS.countP (hiAbove k) ≤ n)) (fun v _ _ => n - slen v)
  case atStart =>
    refine ⟨ext_alloc _ _, some ⟨w.heap.size, 0, none⟩, 1, [0], [], rfl, Nat.zero_le _, ⟨rfl, .inr ⟨w.heap.size, 1, #[.int .u8 0], rfl, Nat.le_refl _, heap_alloc_new _ _, Nat.le_refl _, by decide, rfl, rfl⟩⟩, owned_nil _ _ _ _, Lib.hid OwnL.nil, Lib.hid (RInv.start RS), Lib.hid ?_⟩
    have := List.countP_le_length (p := hiAbove [0]) (l := RS)
    have := HRL.out
    simp
    omega
  case round =>
    obtain ⟨hE, A9, c9, k, os, rfl, hon, hk, ho, HO, HI, HC⟩ := hrel
    have hkl := (isKeyB_iff.1 HI.out.key).2
    have hks := hk.sl (Nat.le_trans hkl (by omega))
    go_wp2_with fail
    refine (redge_any (n := n) (m := k.length) (h.ext hE) hks HN.out rfl hsz HI.out.key).mono ?_
    rintro e w2 ⟨A2, c2, lo, rfl, oLo, hed, -, hE2⟩
    rw [HRS.out] at hed
    have HED := Lib.hid hed
    clear hed
    have hEb := hE.trans hE2
    have ho2 := ownsRow_ext ho hE2
    by_cases h0 : lo = []
    · subst h0
      have HR := Lib.hid (HI.out.done HED.out)
      have HO2 := Lib.hid (HO.out.ext hE2)
      go_wp2
      go_ret
      exact ⟨_, os, rfl, ho2, HO2.out, HR.out, by omega, hEb⟩
    · have hl0 : 0 < lo.length := List.length_pos_iff.2 h0
      have hl0n : ¬ lo.length = 0 := by omega
      obtain ⟨hlk, hkle, _⟩ := HED.out.is h0
      have hll := (isKeyB_iff.1 hlk).2
      have HLK := Lib.hid hlk
      have sLo := oLo.sl (Nat.le_trans hll (by omega))
      clear hlk
      go_wp2_with fail
      refine (redge_any (n := n) (m := lo.length) (h.ext hEb) sLo HN.out rfl hsz HLK.out).mono ?_
      rintro e w3 ⟨A3, c3', hi, rfl, oHi, hed, hfm, hE3⟩
      rw [HRS.out] at hed hfm
      have HED2 := Lib.hid hed
      have HFM := Lib.hid hfm
      clear hed hfm
      have hEc := hEb.trans hE3
      have ho3 := ownsRow_ext ho2 hE3
      have hns := Lib.hid (noShare_of oLo (Nat.le_refl _) oHi)
      have oLo3 := oLo.ext hE3
      have oHi3 := Own.mono oHi hE2.size
      by_cases h1 : hi = []
      · subst h1
        have HR := Lib.hid (HI.out.openEnd HED.out h0 HED2.out)
        have HOK := Lib.hid (show Okf ⟨lo, [], true⟩ from ⟨HLK.out, fun _ => rfl, fun h9 => (by cases h9)⟩)
        have HRO := Lib.hid (show ROwn wr.heap.size w3 A2 c2 none 0 ⟨lo, [], true⟩ from ⟨oLo3, own_nil _ _ _, noShare_nil _⟩)
        clear oLo oHi oLo3 oHi3 hns sLo hks hk
        go_wp2_with (at_builtin; refine wpList_append_own _ rfl _ _ 37 rfl w.heap.size 32 i0 (.agg #[.slice none 0 0, .slice none 0 0, .bool false]) 3 56 Try.underlying37 hti hz0 hz1 hz2 rfl (by decide) _ _ _ rfl (World.ownsRow.alloc ho3 _) ⟨w3.heap.size, 0, none⟩ 1 1 (c3 ⟨A2, c2, lo, none, 0, [], true⟩) rfl rfl (cells_new _ _ _) (by simp [Value.oneCell']) (by simp [maxLen] <;> omega) (by omega) (by have := hEc.size; simp; omega) ?_; intro v' w5 hown5 hgrow5 _)
        have hEd := ext_append hEc ho3 hgrow5
        have HO5 := Lib.hid (((HO.out.snoc (Nat.le_refl _) hE.size (hE2.trans hE3) HRO.out HOK.out).ext (ext_alloc w3 _)).row (World.ownsRow.alloc ho3 _) hgrow5)
        have ho5 := snoc_row hown5
        have HR5 := Lib.hid (show CovOf RS ((os ++ [(⟨A2, c2, lo, none, 0, [], true⟩ : Fr)]).map rg) by rw [List.map_append]; exact HR.out)
        clear hgrow5 hown5
        go_wp2
        go_ret
        first | exact ⟨_, _, rfl, ho5, HO5.out, HR5.out, by simp; omega, hEd⟩ | exact ⟨_, rfl, _, ho5, HO5.out, HR5.out, by simp; omega, hEd⟩
      · have hh0 : 0 < hi.length := List.length_pos_iff.2 h1
        have hh0n : ¬ hi.length = 0 := by omega
        obtain ⟨hhk, hhle, hhn⟩ := HED2.out.is h1
        obtain ⟨hnx, hlt⟩ := HI.out.next HED.out h0 HED2.out h1
        have HNX := Lib.hid hnx
        have HFL := Lib.hid (show os.length + 1 + RS.countP (hiAbove hi) ≤ n by
          have h9 := hi_falls hlt (HFM.out (by rw [(HED.out.is h0).2.2]; rfl) h1)
          have := HC.out
          omega)
        have hon1 : os.length + 1 ≤ n := by have := HFL.out; omega
        have HOK := Lib.hid (show Okf ⟨lo, hi, false⟩ from hnx.canon.1 _ (by simp))
        have HRO := Lib.hid (show ROwn wr.heap.size w3 A2 c2 A3 c3' ⟨lo, hi, false⟩ from ⟨oLo3, oHi3, hns.out⟩)
        have hk3 := Own.mono oHi3 hE.size
        clear oLo oHi oLo3 oHi3 hns sLo hks hk hnx hhk hhle hhn hlt
        go_wp2_with (at_builtin; refine wpList_append_own _ rfl _ _ 37 rfl w.heap.size 32 i0 (.agg #[.slice none 0 0, .slice none 0 0, .bool false]) 3 56 Try.underlying37 hti hz0 hz1 hz2 rfl (by decide) _ _ _ rfl (World.ownsRow.alloc ho3 _) ⟨w3.heap.size, 0, none⟩ 1 1 (c3 ⟨A2, c2, lo, A3, c3', hi, false⟩) rfl rfl (cells_new _ _ _) (by simp [Value.oneCell']) (by simp [maxLen] <;> omega) (by omega) (by have := hEc.size; simp; omega) ?_; intro v' w5 hown5 hgrow5 _)
        have hEd := ext_append hEc ho3 hgrow5
        have HO5 := Lib.hid (((HO.out.snoc (Nat.le_refl _) hE.size (hE2.trans hE3) HRO.out HOK.out).ext (ext_alloc w3 _)).row (World.ownsRow.alloc ho3 _) hgrow5)
        have hk5 := (hk3.ext (ext_alloc w3 _)).row (World.ownsRow.alloc ho3 _) (by decide) hgrow5
        have ho5 := snoc_row hown5
        have HNX5 := Lib.hid (show RInv RS hi ((os ++ [(⟨A2, c2, lo, A3, c3', hi, false⟩ : Fr)]).map rg) by rw [List.map_append]; exact HNX.out)
        obtain ⟨Av, Cv, rfl⟩ := slice_of_own ho5
        obtain ⟨Aw, Cw, rfl⟩ := slice_of_own ho
        clear hgrow5 hown5
        go_wp2
        go_roundw
        case rel => exact ⟨hEd, A3, c3', hi, os ++ [⟨A2, c2, lo, A3, c3', hi, false⟩], rfl, by simp; omega, hk5, ho5, HO5, HNX5, Lib.hid (by have := HFL.out; simp; omega)⟩
        case measure => simp [slen]; omega
end Go.Proofs.Ytijlaknfagpglaa
