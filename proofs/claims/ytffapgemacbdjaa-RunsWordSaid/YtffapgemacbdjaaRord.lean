/- Layer 5: plain laws of RunsOrder. No program. -/
import Derived.Test.YtffapgemacbdjaaRnp
namespace Go.Proofs.Ytffapgemacbdjaa
set_option linter.unusedVariables false
/-- Which run is taken at place i. -/
def kk (turn : Int) (n i : Nat) : Nat := (((i : Int) + turn.tmod n + n).tmod n).toNat
/-- A run, cut in two where a cut says so. -/
def piece (cuts : List Int) (k : Nat) (x : Rn) : List Rn :=
  match cuts[k]? with
  | some c => if x.lo ≤ c ∧ c < x.hi then [⟨c + 1, x.hi⟩, ⟨x.lo, c⟩] else [x]
  | none => [x]
def bL (cuts : List Int) (turn : Int) (l : List Rn) (i : Nat) : List Rn := (List.range i).flatMap fun j => piece cuts (kk turn l.length j) (l.getD (kk turn l.length j) ⟨0, 0⟩)
theorem tmod_bd (turn : Int) {n : Nat} (hn : 0 < n) : -(n : Int) < turn.tmod n ∧ turn.tmod n < n := by
  have h1 := Int.tmod_lt_of_pos turn (show (0 : Int) < n by omega)
  have h2 := Int.tmod_lt_of_pos (-turn) (show (0 : Int) < n by omega)
  rw [Int.neg_tmod] at h2
  omega
theorem kk_eq (turn : Int) {n i : Nat} (hn : 0 < n) : ((i : Int) + turn.tmod n + n).tmod n = (kk turn n i : Int) ∧ kk turn n i < n := by
  have hb := tmod_bd turn hn
  have h0 : (0 : Int) ≤ (i : Int) + turn.tmod n + n := by omega
  have h1 : 0 ≤ ((i : Int) + turn.tmod n + n).tmod n := Int.tmod_nonneg _ h0
  have h2 := Int.tmod_lt_of_pos ((i : Int) + turn.tmod n + n) (show (0 : Int) < n by omega)
  unfold kk
  omega
theorem kk_onto (turn : Int) {n k : Nat} (hk : k < n) : ∃ i, i < n ∧ kk turn n i = k := by
  have hn : 0 < n := by omega
  have hb := tmod_bd turn hn
  obtain ⟨s, hs⟩ : ∃ s, turn.tmod n = s := ⟨_, rfl⟩
  rw [hs] at hb
  refine ⟨(((k : Int) - s) % n).toNat, ?_, ?_⟩
  · have := Int.emod_lt_of_pos ((k : Int) - s) (show (0 : Int) < n by omega)
    have := Int.emod_nonneg ((k : Int) - s) (show (n : Int) ≠ 0 by omega)
    omega
  · have h1 := Int.emod_nonneg ((k : Int) - s) (show (n : Int) ≠ 0 by omega)
    unfold kk
    rw [hs, Int.toNat_of_nonneg h1]
    have h2 : (0 : Int) ≤ ((k : Int) - s) % n + s + n := by omega
    rw [Int.tmod_eq_emod_of_nonneg h2]
    have h3 : (((k : Int) - s) % n + s + n) % n = (k : Int) := by
      rw [Int.add_emod_right]
      have : (((k : Int) - s) % n + s) % n = (((k : Int) - s) + s) % n := by rw [Int.emod_add_emod]
      rw [this, Int.sub_add_cancel]
      exact Int.emod_eq_of_lt (by omega) (by omega)
    rw [h3]
    simp
theorem mem_piece {cuts : List Int} {k : Nat} {x : Rn} {y : Int} : memR (piece cuts k x) y ↔ x.lo ≤ y ∧ y ≤ x.hi := by
  unfold piece
  split
  · rename_i c hc
    split
    · rename_i h
      rw [show ([⟨c + 1, x.hi⟩, ⟨x.lo, c⟩] : List Rn) = [⟨c + 1, x.hi⟩] ++ [⟨x.lo, c⟩] from rfl, mem_append', mem_one, mem_one]
      simp only
      omega
    · exact mem_one
  · exact mem_one
theorem mem_flat {α : Type} {f : α → List Rn} {l : List α} {y : Int} : memR (l.flatMap f) y ↔ ∃ a ∈ l, memR (f a) y := by
  constructor
  · rintro ⟨r, hr, h⟩
    obtain ⟨a, ha, hr⟩ := List.mem_flatMap.1 hr
    exact ⟨a, ha, r, hr, h⟩
  · rintro ⟨a, ha, r, hr, h⟩
    exact ⟨r, List.mem_flatMap.2 ⟨a, ha, hr⟩, h⟩
theorem mem_bL (cuts : List Int) (turn : Int) (l : List Rn) (y : Int) : memR (bL cuts turn l l.length) y ↔ memR l y := by
  unfold bL
  rw [mem_flat]
  constructor
  · rintro ⟨i, hi, h⟩
    rw [mem_piece] at h
    have hi' := List.mem_range.1 hi
    have hk := (kk_eq turn (n := l.length) (i := i) (by omega)).2
    refine ⟨l.getD (kk turn l.length i) ⟨0, 0⟩, ?_, h⟩
    rw [List.getD_eq_getElem?_getD, List.getElem?_eq_getElem hk]
    exact List.getElem_mem hk
  · rintro ⟨r, hr, h⟩
    obtain ⟨k, hk, rfl⟩ := List.mem_iff_getElem.1 hr
    obtain ⟨i, hi, e⟩ := kk_onto turn hk
    refine ⟨i, List.mem_range.2 hi, ?_⟩
    rw [mem_piece, e, List.getD_eq_getElem?_getD, List.getElem?_eq_getElem hk]
    exact h
theorem foldl_addL : ∀ (l L : List Rn), WfR L → WfR (List.foldl addL L l) ∧ ∀ y, memR (List.foldl addL L l) y ↔ memR L y ∨ memR l y
  | [], L, h => ⟨h, fun y => ⟨.inl, fun h => h.elim id (fun h => absurd h mem_nil)⟩⟩
  | x :: l, L, h => by
    obtain ⟨h1, h2⟩ := addL_ok h x
    obtain ⟨h3, h4⟩ := foldl_addL l _ h1
    refine ⟨h3, fun y => ?_⟩
    have e := h4 y
    have e2 := h2 y
    have e3 : memR (x :: l) y ↔ (x.lo ≤ y ∧ y ≤ x.hi) ∨ memR l y := by
      rw [show x :: l = [x] ++ l from rfl, mem_append', mem_one]
    simp only [List.foldl_cons]
    rw [e, e2, e3]
    constructor
    · rintro ((h | h) | h)
      · exact .inl h
      · exact .inr (.inl h)
      · exact .inr (.inr h)
    · rintro (h | h | h)
      · exact .inl (.inl h)
      · exact .inl (.inr h)
      · exact .inr h
/-- The same set comes of them. -/
theorem order_law (cuts : List Int) (turn : Int) (l : List Rn) : List.foldl addL [] (bL cuts turn l l.length) = List.foldl addL [] l := by
  obtain ⟨a1, a2⟩ := foldl_addL (bL cuts turn l l.length) [] trivial
  obtain ⟨b1, b2⟩ := foldl_addL l [] trivial
  refine wf_unique a1 b1 (fun y => ?_)
  rw [a2, b2, mem_bL]
theorem bL_succ (cuts : List Int) (turn : Int) (l : List Rn) (i : Nat) : bL cuts turn l (i + 1) = bL cuts turn l i ++ piece cuts (kk turn l.length i) (l.getD (kk turn l.length i) ⟨0, 0⟩) := by
  unfold bL
  rw [List.range_succ, List.flatMap_append]
  simp
theorem piece_len (cuts : List Int) (k : Nat) (x : Rn) : (piece cuts k x).length ≤ 2 := by
  unfold piece
  split
  · split <;> simp
  · simp
theorem bL_len (cuts : List Int) (turn : Int) (l : List Rn) : ∀ i, (bL cuts turn l i).length ≤ 2 * i
  | 0 => by simp [bL]
  | i + 1 => by
    have h1 := bL_len cuts turn l i
    have h2 := piece_len cuts (kk turn l.length i) (l.getD (kk turn l.length i) ⟨0, 0⟩)
    rw [bL_succ, List.length_append]
    omega
theorem bL_mem {cuts : List Int} {turn : Int} {l : List Rn} {Q : Rn → Prop} (hQ : ∀ x ∈ l, Q x) (hc : ∀ x c, Q x → x.lo ≤ c → c < x.hi → Q ⟨c + 1, x.hi⟩ ∧ Q ⟨x.lo, c⟩) : ∀ i, i ≤ l.length → ∀ r ∈ bL cuts turn l i, Q r := by
  intro i hi r hr
  unfold bL at hr
  obtain ⟨j, hj, hr⟩ := List.mem_flatMap.1 hr
  have hj' := List.mem_range.1 hj
  have hk := (kk_eq turn (n := l.length) (i := j) (by omega)).2
  have hx : Q (l.getD (kk turn l.length j) ⟨0, 0⟩) := by
    rw [List.getD_eq_getElem?_getD, List.getElem?_eq_getElem hk]
    exact hQ _ (List.getElem_mem hk)
  unfold piece at hr
  split at hr
  · split at hr
    · rename_i h
      obtain ⟨q1, q2⟩ := hc _ _ hx h.1 h.2
      rcases List.mem_cons.1 hr with rfl | hr
      · exact q1
      · rcases List.mem_cons.1 hr with rfl | hr
        · exact q2
        · cases hr
    · rcases List.mem_cons.1 hr with rfl | hr
      · exact hx
      · cases hr
  · rcases List.mem_cons.1 hr with rfl | hr
    · exact hx
    · cases hr
end Go.Proofs.Ytffapgemacbdjaa
