/- Rows of a call's own that are written over with marks, grown and looked at: plain laws. No condition. -/
import Derived.Test.YtijlaknfagpglaaWords
import Derived.Test.YtijlaknfagpglaaRg
import Derived.ArgAppend
import Derived.Maps.AppendAt
import Derived.Deep.MidRow
namespace Go.Proofs.Ytijlaknfagpglaa
open Go.RowKit Go.Proofs
set_option linter.unusedVariables false
set_option linter.unusedSimpArgs false
/-- A slice's header. -/
structure Hd where
  A : Option Addr
  k : Nat
  c : Nat
abbrev Hd.v (h : Hd) : Value := .slice h.A h.k h.c
/-- The cells of the first k marks of row i. -/
def Mks (mk : Nat → Nat → List Value) (i k : Nat) : List Value := (List.range k).flatMap (mk i)
section
variable {mk : Nat → Nat → List Value} {n : Nat}
theorem Mks_zero (i : Nat) : Mks mk i 0 = [] := rfl
theorem Mks_succ (i k : Nat) : Mks mk i (k + 1) = Mks mk i k ++ mk i k := by simp [Mks, List.range_succ]
theorem length_Mks (hm : ∀ i k, (mk i k).length = n) (i : Nat) : ∀ k, (Mks mk i k).length = k * n
  | 0 => by simp [Mks]
  | k + 1 => by rw [Mks_succ, List.length_append, length_Mks hm i k, hm, Nat.add_mul]; omega
theorem Mks_take (hm : ∀ i k, (mk i k).length = n) (i k : Nat) : ∀ t, (Mks mk i (k + t)).take (k * n) = Mks mk i k
  | 0 => by rw [Nat.add_zero, List.take_of_length_le]; rw [length_Mks hm]; exact Nat.le_refl _
  | t + 1 => by
    have := length_Mks hm i (k + t)
    rw [← Nat.add_assoc, Mks_succ, List.take_append_of_le_length (by rw [this]; exact Nat.mul_le_mul_right _ (Nat.le_add_right _ _)), Mks_take hm i k t]
theorem Mks_at (hm : ∀ i k, (mk i k).length = n) {i k N j : Nat} (hk : k < N) (hj : j < n) : (Mks mk i N)[k * n + j]? = (mk i k)[j]? := by
  have h1 : (Mks mk i N).take ((k + 1) * n) = Mks mk i (k + 1) := by
    have := Mks_take hm i (k + 1) (N - (k + 1))
    rwa [show k + 1 + (N - (k + 1)) = N by omega] at this
  have h2 : k * n + j < (k + 1) * n := by rw [Nat.add_mul]; omega
  have h3 := congrArg (fun l => l[k * n + j]?) h1
  simp only [List.getElem?_take, if_pos h2] at h3
  rw [h3, Mks_succ, List.getElem?_append_right (by rw [length_Mks hm]; omega), length_Mks hm]
  congr 1; omega
end
section
variable {w w' : World} {B : Nat} {e : TypeId} {n : Nat} {v : Value} {k : Nat} {xs : List Value}
theorem own_ext (h : w.ownsRow B e n v k xs) (he : Ext w w') : w'.ownsRow B e n v k xs := by
  refine ⟨h.1, ?_⟩
  rcases h.2 with h0 | ⟨g, cap, cur, hv, hb, hg, r⟩
  · exact .inl h0
  · exact .inr ⟨g, cap, cur, hv, hb, he.blk hg, r⟩
theorem own_mono (h : w.ownsRow B e n v k xs) {B' : Nat} (hB : B' ≤ B) : w.ownsRow B' e n v k xs := by
  refine ⟨h.1, ?_⟩
  rcases h.2 with h0 | ⟨g, cap, cur, hv, hb, r⟩
  · exact .inl h0
  · exact .inr ⟨g, cap, cur, hv, Nat.le_trans hB hb, r⟩
theorem own_prefix {A : Option Addr} {c t : Nat} (h : w.ownsRow B e n (.slice A (k + t) c) (k + t) xs) : w.ownsRow B e n (.slice A k c) k (xs.take (k * n)) := by
  have hl := h.1
  refine ⟨by rw [List.length_take, hl, Nat.add_mul]; omega, ?_⟩
  rcases h.2 with ⟨hv, h0⟩ | ⟨g, cap, cur, hv, hb, hg, hle, hm, hs, ht⟩
  · injection hv with h1 h2 h3
    obtain rfl : k = 0 := by omega
    subst h1 h3
    exact .inl ⟨rfl, rfl⟩
  · injection hv with h1 h2 h3
    subst h1 h3
    refine .inr ⟨g, _, cur, rfl, hb, hg, by omega, hm, hs, ?_⟩
    rw [← ht, List.take_take, Nat.min_eq_left (Nat.mul_le_mul_right _ (Nat.le_add_right _ _))]
theorem own_not {gl : Nat} {cs : Array Value} {e' : TypeId} {fr : Nat × Nat} (h : w.ownsRow B e n v k xs) (hg : w.heap[gl]? = some (.cells cs e' fr)) (hne : e ≠ e') : v.ownBlock ≠ some gl := by
  rcases h.2 with ⟨hv, h0⟩ | ⟨g, cap, cur, hv, hb, hg', _⟩
  · rw [hv]; simp [Value.ownBlock]
  · rw [hv]
    intro he
    simp only [Value.ownBlock, Option.some.injEq] at he
    subst he
    rw [hg'] at hg
    injection hg with hg
    injection hg with _ h2
    exact hne h2
theorem own_at {mk : Nat → Nat → List Value} (hm : ∀ i k, (mk i k).length = n) {A : Option Addr} {c i N : Nat} (h : w.ownsRow B e n (.slice A N c) N (Mks mk i N)) (hk : k < N) : ∃ g, A = some ⟨g, 0, none⟩ ∧ B ≤ g ∧ ∀ j u, (mk i k)[j]? = some u → w.cell? ⟨g, k * n + j, none⟩ = some u := by
  obtain ⟨g, cap, hv, hb, _⟩ := World.ownsRow.form h (by omega)
  injection hv with hA
  subst hA
  refine ⟨g, rfl, hb, fun j u hu => ?_⟩
  have hj : j < n := by rw [← hm i k]; exact (List.getElem?_eq_some_iff.1 hu).1
  have hlt : k * n + j < N * n := by
    have : (k + 1) * n ≤ N * n := Nat.mul_le_mul_right _ hk
    rw [Nat.add_mul] at this; omega
  rw [World.ownsRow.cellAt h _ hlt, Mks_at hm hk hj, hu]
theorem setCells_part {g : Nat} {t : TypeId} : ∀ (vs pre old post : List Value) (o : Nat) (w : World), w.heap[g]? = some (.cells (pre ++ old ++ post).toArray t (0, 0)) → pre.length = o → old.length = vs.length →
    (w.setCells g o vs).heap[g]? = some (.cells (pre ++ vs ++ post).toArray t (0, 0)) ∧ w.grownBy (w.setCells g o vs) (some g)
  | [], pre, old, post, o, w, h, _, hl => by
    have : old = [] := List.eq_nil_of_length_eq_zero hl
    subst this
    exact ⟨h, World.grownBy.refl w _⟩
  | v :: vs, pre, u :: old, post, o, w, h, hp, hl => by
    subst hp
    have h1 := heap_setCell_same w g pre.length _ t v h
    have e : (pre ++ u :: old ++ post).toArray.setIfInBounds pre.length v = ((pre ++ [v]) ++ old ++ post).toArray := by
      simp
    rw [e] at h1
    have h2 := setCells_part vs (pre ++ [v]) old post (pre.length + 1) (w.setCell ⟨g, pre.length, none⟩ v) h1 (by simp) (by simpa using hl)
    refine ⟨by simpa [World.setCells] using h2.1, ?_⟩
    have hg : w.grownBy (w.setCell ⟨g, pre.length, none⟩ v) (some g) := ⟨rfl, rfl, rfl, by simp [World.setCell], fun k hk hn => Below.heap_setCell w _ v k (by rintro rfl; exact hn rfl)⟩
    exact ⟨h2.2.os.trans hg.os, h2.2.tape.trans hg.tape, h2.2.output.trans hg.output, Nat.le_trans hg.size h2.2.size, fun k hk hn => (h2.2.block k (Nat.lt_of_lt_of_le hk hg.size) hn).trans (hg.block k hk hn)⟩
  | v :: vs, pre, [], post, o, w, h, _, hl => by simp at hl
theorem own_stored {g N cap : Nat} {vs : List Value} (h : w.ownsRow B e n (.slice (some ⟨g, 0, none⟩) N cap) N xs) (hk : k < N) (hl : vs.length = n) :
    (w.setCells g (k * n) vs).ownsRow B e n (.slice (some ⟨g, 0, none⟩) N cap) N (xs.take (k * n) ++ vs ++ xs.drop ((k + 1) * n)) ∧ w.grownBy (w.setCells g (k * n) vs) (some g) := by
  have hx := h.1
  have hkn : (k + 1) * n ≤ N * n := Nat.mul_le_mul_right _ hk
  have hk1 : (k + 1) * n = k * n + n := by rw [Nat.add_mul]; omega
  rcases h.2 with ⟨hv, _⟩ | ⟨g', cap', cur, hv, hb, hg, hle, hm, hs, ht⟩
  · cases hv
  · injection hv with h1 h2 h3
    injection h1 with h1
    injection h1 with h1
    subst h1 h3
    have hcn : N * n ≤ cap * n := Nat.mul_le_mul_right _ hle
    have hcl : cur.toList.length = cap * n := by simpa using hs
    have hcut : cur = (cur.toList.take (k * n) ++ (cur.toList.drop (k * n)).take n ++ cur.toList.drop ((k + 1) * n)).toArray := by
      apply Array.toList_inj.1
      rw [List.append_assoc, hk1, ← List.drop_drop, List.take_append_drop, List.take_append_drop]
    rw [hcut] at hg
    obtain ⟨p1, p2⟩ := setCells_part vs _ _ _ (k * n) w hg (by rw [List.length_take, hcl]; omega) (by rw [List.length_take, List.length_drop, hcl, hl]; omega)
    refine ⟨⟨by simp only [List.length_append, List.length_take, List.length_drop, hx, hl]; omega, .inr ⟨g, cap, _, rfl, hb, p1, hle, hm, ?_, ?_⟩⟩, p2⟩
    · simp only [List.size_toArray, List.length_append, List.length_take, List.length_drop, hcl, hl]; omega
    · rw [← ht]
      simp only [List.toList_toArray]
      rw [List.take_take, Nat.min_eq_left (by omega), List.drop_take]
      rw [List.take_append, List.take_of_length_le (l := cur.toList.take (k * n) ++ vs) (by simp only [List.length_append, List.length_take, hcl, hl]; omega)]
      simp only [List.length_append, List.length_take, hcl, hl]
      rw [show N * n - (min (k * n) (cap * n) + n) = N * n - (k + 1) * n by omega]
/-- A whole value stored into a row of the call's own. -/
theorem wpList_store_own {P : Program} {ops : Array Oper} {rest : List Oper} {o : Oper} {a : Act} {Q : Exit → Act → World → Prop} (hgd : o.guard = none) (ty : TypeId) (x y : Operand) (ho : o.op = .store ty x y)
    (g N cap : Nat) (vs : List Value) (hx : a.eval x = .pointer (some ⟨g, k * n, none⟩)) (hy : a.eval y = .agg vs.toArray) (h : w.ownsRow B e n (.slice (some ⟨g, 0, none⟩) N cap) N xs) (hk : k < N) (hl : vs.length = n)
    (hi : (P.info? ty).map (·.size) = some n) (h1 : ∀ v ∈ vs, v.oneCell' = true)
    (hK : ∀ w', w'.ownsRow B e n (.slice (some ⟨g, 0, none⟩) N cap) N (xs.take (k * n) ++ vs ++ xs.drop ((k + 1) * n)) → w.grownBy w' (some g) → wpList P ops Q rest (a.put o.dst undef) w') : wpList P ops Q (o :: rest) a w := by
  obtain ⟨k1, k2⟩ := own_stored h hk hl
  refine wpList_store_mid hgd ty x y ho g (k * n) vs.toArray hx hy (fun j hj => ?_) (by simpa [hl] using hi) (all_oneCell_toArray h1) (hK _ (by simpa using k1) (by simpa using k2))
  have hj' : j < n := by rw [← hl]; simpa using hj
  have hlt : k * n + j < N * n := by
    have : (k + 1) * n ≤ N * n := Nat.mul_le_mul_right _ hk
    rw [Nat.add_mul] at this; omega
  refine ⟨?_, World.ownsRow.frozenAt h _⟩
  rw [World.ownsRow.cellAt h _ hlt, Option.isSome_iff_exists]
  exact ⟨_, List.getElem?_eq_getElem (by rw [h.1]; exact hlt)⟩
/-- An append onto a row of the call's own: it stays where it lies, or a new row is laid and the old one stays as it was. -/
theorem wpList_append_apart {P : Program} {ops : Array Oper} {rest : List Oper} {o : Oper} {a : Act} {Q : Exit → Act → World → Prop} (hgd : o.guard = none) (s x : Operand) (t : TypeId)
    (ho : o.op = .call { callee := .builtin .append, args := #[s, x], argTypes := #[t, t] })
    (base : Nat) (e : TypeId) (i : TypeInfo) (z : Value) (size bytes : Nat) (ht : P.underlying t = some (.slice e)) (hi : P.info? e = some i) (hz : i.zero = some z)
    (hsize : i.size = size) (hby : i.bytes = bytes) (hzs : z.cells.size = size) (hsz : 0 < size)
    (v : Value) (n : Nat) (xs : List Value) (hs : a.eval s = v) (hown : w.ownsRow base e size v n xs)
    (ad : Addr) (m c : Nat) (news : List Value) (hx : a.eval x = .slice (some ad) m c) (hl : news.length = m * size) (hnews : ∀ j u, news[j]? = some u → w.cell? (ad.add j) = some u) (h1 : ∀ u ∈ news, u.oneCell' = true)
    (hm : 0 < m) (h63 : n + m ≤ maxLen) (hbytes : (n + m) * bytes ≤ 140737488355328) (hbase : base ≤ w.heap.size)
    (h : ∀ v' w', w'.ownsRow base e size v' (n + m) (xs ++ news) → ((∃ A c, v = .slice A n c ∧ v' = .slice A (n + m) c ∧ w.grownBy w' v.ownBlock) ∨ (w.grownBy w' none ∧ ∀ g, v'.ownBlock = some g → w.heap.size ≤ g)) → wpList P ops Q rest (a.put o.dst v') w') : wpList P ops Q (o :: rest) a w := by
  have key : ∃ v' w', (Builtin.append_ #[t, t] o.type #[v, .slice (some ad) m c]).run P w = .ok v' w' ∧ w'.ownsRow base e size v' (n + m) (xs ++ news) ∧ ((∃ A c, v = .slice A n c ∧ v' = .slice A (n + m) c ∧ w.grownBy w' v.ownBlock) ∨ (w.grownBy w' none ∧ ∀ g, v'.ownBlock = some g → w.heap.size ≤ g)) := by
    rcases hown.2 with ⟨rfl, h0⟩ | ⟨g, cap, cur, rfl, hb, hg, hle, hmx, hcs, htk⟩
    · obtain ⟨v', w', hr, h2, h3, h4, h5⟩ := run_append_own_at (P := P) w base t o.type e i z size bytes ht hi hz hsize hby hzs hsz _ n xs hown ad m c news hl hnews h1 h63 hbytes hbase
      refine ⟨v', w', hr, h2, .inr ⟨h3, fun g hg => ?_⟩⟩
      rcases h5 with h5 | h5
      · rw [h5] at hg; cases hg
      · rw [h5] at hg; injection hg with hg; omega
    · by_cases hr : n + m ≤ cap
      · obtain ⟨w', hrun, h2, h3⟩ := run_append_fits (P := P) w base t o.type e i size ht hi hsize g n cap xs hown ad m c news hl hnews h1 hr
        exact ⟨_, w', hrun, h2, .inl ⟨_, _, rfl, rfl, h3⟩⟩
      · obtain ⟨v', w', hrun, h2, h3⟩ := run_append_arg_grows (P := P) w t o.type e i z size bytes ht hi hz hsize hby hzs hsz ⟨g, 0, none⟩ n cap xs hown.1 (hown.cells rfl) ad m c news hl hnews (by omega) h63 hbytes
        exact ⟨v', w', hrun, own_mono h2 hbase, .inr ⟨h3, fun g' hg' => (h2.lt g' hg').1⟩⟩
  obtain ⟨v', w', hr, h2, h3⟩ := key
  refine wpList_plain hgd fun _ hK => ?_
  unfold Oper.wp execOp
  simp only [ho, resolve, invoke, builtin, Sem.run_bind, Sem.run_pure, Result.andThen_ok, List.map_toArray, List.map_cons, List.map_nil, hs, hx, hr]
  exact hK _ _ (h v' w' h2 h3)
end
/-! ### The three rounds of loops -/
/-- The rows of these headers lie apart. -/
def ApartH (hs : List Hd) : Prop := ∀ (j1 j2 : Nat) (h1 h2 : Hd) (q : Nat), hs[j1]? = some h1 → hs[j2]? = some h2 → j1 ≠ j2 → h1.v.ownBlock = some q → h2.v.ownBlock ≠ some q
section
variable {e : TypeId} {n B : Nat} {mk : Nat → Nat → List Value} {hs gs : List Hd} {i k t T : Nat} {w w' : World} {h : Hd} {v : Value}
/-- What lasts of rows. -/
def KeepR (e : TypeId) (n B : Nat) (w w' : World) : Prop := ∀ v k xs, w.ownsRow B e n v k xs → w'.ownsRow B e n v k xs
theorem KeepR.of_ext (h : Ext w w') : KeepR e n B w w' := fun _ _ _ ho => own_ext ho h
theorem KeepR.of_grown {row : Option Nat} (hg : w.grownBy w' row) (hr : ∀ gl, row = some gl → ∃ cs e' fr, w.heap[gl]? = some (.cells cs e' fr) ∧ e ≠ e') : KeepR e n B w w' := fun v k xs ho => ho.kept hg (by
  cases hv : v.ownBlock with
  | none => exact .inl rfl
  | some q =>
    refine .inr fun he => ?_
    obtain ⟨cs, e', fr, h1, h2⟩ := hr q he.symm
    exact own_not ho h1 h2 hv)
structure Marked (e : TypeId) (n B : Nat) (mk : Nat → Nat → List Value) (hs : List Hd) (i k : Nat) (w : World) : Prop where
  rows : ∀ (j : Nat) (h : Hd), hs[j]? = some h → ∃ xs, w.ownsRow B e n h.v h.k xs ∧ (j < i → xs = Mks mk j h.k) ∧ (j = i → xs.take (k * n) = Mks mk i k)
theorem Marked.keep (hM : Marked e n B mk hs i k w) (hk : KeepR e n B w w') : Marked e n B mk hs i k w' := ⟨fun j h hj => by
  obtain ⟨xs, h1, h2⟩ := hM.rows j h hj
  exact ⟨xs, hk _ _ _ h1, h2⟩⟩
theorem Marked.start (h : ∀ (j : Nat) (h : Hd), hs[j]? = some h → ∃ xs, w.ownsRow B e n h.v h.k xs) : Marked e n B mk hs 0 0 w := ⟨fun j h' hj => by
  obtain ⟨xs, h1⟩ := h j h' hj
  exact ⟨xs, h1, fun h => by omega, fun _ => by simp [Mks]⟩⟩
theorem Marked.next (hM : Marked e n B mk hs i k w) (hh : hs[i]? = some h) (hk : k = h.k) : Marked e n B mk hs (i + 1) 0 w := ⟨fun j h' hj => by
  obtain ⟨xs, h1, h2, h3⟩ := hM.rows j h' hj
  refine ⟨xs, h1, fun hlt => ?_, fun _ => by simp [Mks]⟩
  by_cases hji : j = i
  · subst hji
    rw [hh] at hj
    injection hj with hj
    subst hj
    have := h3 rfl
    rw [hk, List.take_of_length_le (by rw [h1.1]; exact Nat.le_refl _)] at this
    exact this
  · exact h2 (by omega)⟩
theorem Marked.row (hM : Marked e n B mk hs i k w) (hh : hs[i]? = some h) (hk : k < h.k) : ∃ g xs, h.A = some ⟨g, 0, none⟩ ∧ B ≤ g ∧ w.ownsRow B e n (.slice (some ⟨g, 0, none⟩) h.k h.c) h.k xs ∧ xs.take (k * n) = Mks mk i k := by
  obtain ⟨xs, h1, h2, h3⟩ := hM.rows i h hh
  obtain ⟨g, cap, hv, hb, _⟩ := World.ownsRow.form h1 (by omega)
  injection hv with hA
  refine ⟨g, xs, hA, hb, ?_, h3 rfl⟩
  rw [← hA]; exact h1
theorem Marked.stored (hm : ∀ i k, (mk i k).length = n) (hA : ApartH hs) (hM : Marked e n B mk hs i k w) (hh : hs[i]? = some h) (hk : k < h.k) {g : Nat} {xs : List Value} (hg : h.A = some ⟨g, 0, none⟩) (hp : xs.take (k * n) = Mks mk i k)
    (ho : w'.ownsRow B e n (.slice (some ⟨g, 0, none⟩) h.k h.c) h.k (xs.take (k * n) ++ mk i k ++ xs.drop ((k + 1) * n))) (hgr : w.grownBy w' (some g)) : Marked e n B mk hs i (k + 1) w' := ⟨fun j h' hj => by
  by_cases hji : j = i
  · subst hji
    rw [hh] at hj
    injection hj with hj
    subst hj
    have e1 : h.v = .slice (some ⟨g, 0, none⟩) h.k h.c := by unfold Hd.v; rw [hg]
    refine ⟨_, by rw [e1]; exact ho, fun h => by omega, fun _ => ?_⟩
    rw [hp, ← Mks_succ]
    exact List.take_left' (length_Mks hm _ _)
  · obtain ⟨ys, h1, h2, h3⟩ := hM.rows j h' hj
    refine ⟨ys, h1.kept hgr ?_, h2, fun h => absurd h hji⟩
    cases hv : h'.v.ownBlock with
    | none => exact .inl rfl
    | some q =>
      refine .inr fun he => ?_
      injection he with he
      subst he
      exact hA j i h' h _ hj hh hji hv (by unfold Hd.v; rw [hg]; rfl)⟩
theorem Marked.done (hM : Marked e n B mk hs i k w) (hi : hs.length ≤ i) : ∀ (j : Nat) (h : Hd), hs[j]? = some h → w.ownsRow B e n h.v h.k (Mks mk j h.k) := fun j h hj => by
  obtain ⟨xs, h1, h2, _⟩ := hM.rows j h hj
  have := (List.getElem?_eq_some_iff.1 hj).1
  rw [← h2 (by omega)]; exact h1
/-- Behind i rows grown by T. -/
structure Grown (e : TypeId) (n B : Nat) (mk : Nat → Nat → List Value) (T : Nat) (hs gs : List Hd) (w : World) : Prop where
  old : ∀ (j : Nat) (h : Hd), hs[j]? = some h → w.ownsRow B e n h.v h.k (Mks mk j h.k)
  new : ∀ (j : Nat) (h g : Hd), hs[j]? = some h → gs[j]? = some g → g.k = h.k + T ∧ w.ownsRow B e n g.v g.k (Mks mk j g.k)
  sep : ∀ (j1 j2 : Nat) (h g : Hd) (q : Nat), hs[j1]? = some h → gs[j2]? = some g → j1 ≠ j2 → g.v.ownBlock = some q → h.v.ownBlock ≠ some q
  sepg : ∀ (j1 j2 : Nat) (g1 g2 : Hd) (q : Nat), gs[j1]? = some g1 → gs[j2]? = some g2 → j1 ≠ j2 → g1.v.ownBlock = some q → g2.v.ownBlock ≠ some q
theorem Grown.keep (hG : Grown e n B mk T hs gs w) (hk : KeepR e n B w w') : Grown e n B mk T hs gs w' :=
  ⟨fun j h hj => hk _ _ _ (hG.old j h hj), fun j h g hj hg => ⟨(hG.new j h g hj hg).1, hk _ _ _ (hG.new j h g hj hg).2⟩, hG.sep, hG.sepg⟩
theorem Grown.start (h : ∀ (j : Nat) (h : Hd), hs[j]? = some h → w.ownsRow B e n h.v h.k (Mks mk j h.k)) : Grown e n B mk T hs [] w :=
  ⟨h, fun j h g _ hg => by simp at hg, fun _ j h g q _ hg => by simp at hg, fun j1 _ g1 _ q hg => by simp at hg⟩
/-- Row i in the midst of its growth. -/
structure Growing (e : TypeId) (n B : Nat) (mk : Nat → Nat → List Value) (T : Nat) (hs gs : List Hd) (i t : Nat) (v : Value) (w : World) : Prop where
  len : gs.length = i
  old : ∀ (j : Nat) (h : Hd), hs[j]? = some h → j ≠ i → w.ownsRow B e n h.v h.k (Mks mk j h.k)
  new : ∀ (j : Nat) (h g : Hd), hs[j]? = some h → gs[j]? = some g → g.k = h.k + T ∧ w.ownsRow B e n g.v g.k (Mks mk j g.k)
  sep : ∀ (j1 j2 : Nat) (h g : Hd) (q : Nat), hs[j1]? = some h → gs[j2]? = some g → j1 ≠ j2 → g.v.ownBlock = some q → h.v.ownBlock ≠ some q
  sepg : ∀ (j1 j2 : Nat) (g1 g2 : Hd) (q : Nat), gs[j1]? = some g1 → gs[j2]? = some g2 → j1 ≠ j2 → g1.v.ownBlock = some q → g2.v.ownBlock ≠ some q
  cur : ∀ (h : Hd), hs[i]? = some h → w.ownsRow B e n v (h.k + t) (Mks mk i (h.k + t)) ∧ (v = .slice h.A (h.k + t) h.c ∨ (w.ownsRow B e n h.v h.k (Mks mk i h.k) ∧ ∀ q, v.ownBlock = some q → h.v.ownBlock ≠ some q))
  csep : ∀ (j : Nat) (h : Hd) (q : Nat), hs[j]? = some h → j ≠ i → v.ownBlock = some q → h.v.ownBlock ≠ some q
  csepg : ∀ (j : Nat) (g : Hd) (q : Nat), gs[j]? = some g → v.ownBlock = some q → g.v.ownBlock ≠ some q
theorem Growing.keep (hG : Growing e n B mk T hs gs i t v w) (hk : KeepR e n B w w') : Growing e n B mk T hs gs i t v w' :=
  ⟨hG.len, fun j h hj hne => hk _ _ _ (hG.old j h hj hne), fun j h g hj hg => ⟨(hG.new j h g hj hg).1, hk _ _ _ (hG.new j h g hj hg).2⟩, hG.sep, hG.sepg,
    fun h hh => ⟨hk _ _ _ (hG.cur h hh).1, (hG.cur h hh).2.imp id fun ⟨a, b⟩ => ⟨hk _ _ _ a, b⟩⟩, hG.csep, hG.csepg⟩
theorem Growing.start (hA : ApartH hs) (hG : Grown e n B mk T hs gs w) (hi : gs.length = i) (hh : hs[i]? = some h) : Growing e n B mk T hs gs i 0 h.v w :=
  ⟨hi, fun j h hj _ => hG.old j h hj, hG.new, hG.sep, hG.sepg,
    fun h' hh' => by
      rw [hh] at hh'
      injection hh' with hh'
      subst hh'
      exact ⟨hG.old i h hh, .inl rfl⟩,
    fun j h' q hj hne hq => hA i j h h' q hh hj (Ne.symm hne) hq,
    fun j g q hg hq he => by
      have := (List.getElem?_eq_some_iff.1 hg).1
      exact hG.sep i j h g q hh hg (by omega) he hq⟩
theorem Growing.push (hm : ∀ i k, (mk i k).length = n) (hG : Growing e n B mk T hs gs i t v w) (hh : hs[i]? = some h) {v' : Value} (ho : w'.ownsRow B e n v' (h.k + t + 1) (Mks mk i (h.k + t) ++ mk i (h.k + t)))
    (hc : (∃ A c, v = .slice A (h.k + t) c ∧ v' = .slice A (h.k + t + 1) c ∧ w.grownBy w' v.ownBlock) ∨ (w.grownBy w' none ∧ ∀ g, v'.ownBlock = some g → w.heap.size ≤ g)) : Growing e n B mk T hs gs i (t + 1) v' w' := by
  rw [← Mks_succ] at ho
  obtain ⟨c1, c2⟩ := hG.cur h hh
  rcases hc with ⟨A, c, hv, hv', hg⟩ | ⟨hg, hn⟩
  · have hb : v'.ownBlock = v.ownBlock := by rw [hv, hv']; cases A <;> rfl
    have hk : ∀ (u : Value) (k : Nat) (xs : List Value), (∀ q, v.ownBlock = some q → u.ownBlock ≠ some q) → w.ownsRow B e n u k xs → w'.ownsRow B e n u k xs := fun u k xs hne hu => hu.kept hg (by
      cases hq : u.ownBlock with
      | none => exact .inl rfl
      | some q => exact .inr fun he => hne q he.symm hq)
    refine ⟨hG.len, fun j h' hj hne => hk _ _ _ (fun q => hG.csep j h' q hj hne) (hG.old j h' hj hne), fun j h' g hj hgg => ⟨(hG.new j h' g hj hgg).1, hk _ _ _ (fun q => hG.csepg j g q hgg) (hG.new j h' g hj hgg).2⟩, hG.sep, hG.sepg, fun h' hh' => ?_,
      fun j h' q hj hne hq => hG.csep j h' q hj hne (by rw [← hb]; exact hq), fun j g q hgg hq => hG.csepg j g q hgg (by rw [← hb]; exact hq)⟩
    rw [hh] at hh'
    injection hh' with hh'
    subst hh'
    refine ⟨ho, ?_⟩
    rcases c2 with c2 | ⟨c2, c3⟩
    · left
      rw [hv] at c2
      injection c2 with e1 _ e3
      rw [hv', e1, e3]
      rfl
    · exact .inr ⟨hk _ _ _ c3 c2, fun q hq => c3 q (by rw [← hb]; exact hq)⟩
  · have hk : ∀ (u : Value) (k : Nat) (xs : List Value), w.ownsRow B e n u k xs → w'.ownsRow B e n u k xs ∧ ∀ q, v'.ownBlock = some q → u.ownBlock ≠ some q := fun u k xs hu => ⟨hu.kept hg (by
      cases hq : u.ownBlock with
      | none => exact .inl rfl
      | some q => exact .inr (by simp)), fun q hq he => by
        have h1 := hn q hq
        have h2 := (hu.lt q he).2
        omega⟩
    refine ⟨hG.len, fun j h' hj hne => (hk _ _ _ (hG.old j h' hj hne)).1, fun j h' g hj hgg => ⟨(hG.new j h' g hj hgg).1, (hk _ _ _ (hG.new j h' g hj hgg).2).1⟩, hG.sep, hG.sepg, fun h' hh' => ?_,
      fun j h' q hj hne hq => (hk _ _ _ (hG.old j h' hj hne)).2 q hq, fun j g q hgg hq => ?_⟩
    · rw [hh] at hh'
      injection hh' with hh'
      subst hh'
      refine ⟨ho, .inr ?_⟩
      rcases c2 with c2 | ⟨c2, c3⟩
      · rw [c2] at c1
        have := own_prefix c1
        rw [Mks_take hm] at this
        exact hk _ _ _ this
      · exact hk _ _ _ c2
    · have h1 := (List.getElem?_eq_some_iff.1 hgg).1
      have h2 := (List.getElem?_eq_some_iff.1 hh).1
      have h3 := hG.len
      exact (hk _ _ _ (hG.new j _ g (List.getElem?_eq_getElem (show j < hs.length by omega)) hgg).2).2 q hq
theorem Growing.done (hG : Growing e n B mk T hs gs i T v w) (hm : ∀ i k, (mk i k).length = n) (hh : hs[i]? = some h) {A : Option Addr} {c : Nat} (hv : v = .slice A (h.k + T) c) : Grown e n B mk T hs (gs ++ [⟨A, h.k + T, c⟩]) w := by
  subst hv
  obtain ⟨c1, c2⟩ := hG.cur h hh
  have hl := hG.len
  have hold : w.ownsRow B e n h.v h.k (Mks mk i h.k) := by
    rcases c2 with c2 | ⟨c2, _⟩
    · rw [c2] at c1
      have := own_prefix c1
      rwa [Mks_take hm] at this
    · exact c2
  have hat : ∀ (j : Nat) (g : Hd), (gs ++ [⟨A, h.k + T, c⟩])[j]? = some g → (gs[j]? = some g ∧ j < i) ∨ (j = i ∧ g = ⟨A, h.k + T, c⟩) := fun j g hg => by
    by_cases hj : j < gs.length
    · rw [List.getElem?_append_left hj] at hg
      exact .inl ⟨hg, by omega⟩
    · rw [List.getElem?_append_right (by omega)] at hg
      have : j - gs.length = 0 := by
        have := (List.getElem?_eq_some_iff.1 hg).1
        simp at this; omega
      rw [this] at hg
      simp only [List.getElem?_cons_zero, Option.some.injEq] at hg
      exact .inr ⟨by omega, hg.symm⟩
  refine ⟨fun j h' hj => ?_, fun j h' g hj hg => ?_, fun j1 j2 h' g q hj hg hne hq => ?_, fun j1 j2 g1 g2 q h1 h2 hne hq => ?_⟩
  · by_cases hji : j = i
    · subst hji
      rw [hh] at hj
      injection hj with hj
      subst hj
      exact hold
    · exact hG.old j h' hj hji
  · rcases hat j g hg with ⟨h1, _⟩ | ⟨rfl, rfl⟩
    · exact hG.new j h' g hj h1
    · rw [hh] at hj
      injection hj with hj
      subst hj
      exact ⟨rfl, c1⟩
  · rcases hat j2 g hg with ⟨h1, _⟩ | ⟨rfl, rfl⟩
    · exact hG.sep j1 j2 h' g q hj h1 hne hq
    · exact hG.csep j1 h' q hj hne hq
  · rcases hat j1 g1 h1 with ⟨k1, _⟩ | ⟨rfl, rfl⟩ <;> rcases hat j2 g2 h2 with ⟨k2, _⟩ | ⟨rfl, rfl⟩
    · exact hG.sepg j1 j2 g1 g2 q k1 k2 hne hq
    · exact fun he => hG.csepg j1 g1 q k1 he hq
    · exact hG.csepg j2 g2 q k2 hq
    · exact absurd rfl hne
end
theorem own_blk {w : World} {B : Nat} {e : TypeId} {n : Nat} {v : Value} {k : Nat} {xs : List Value} (h : w.ownsRow B e n v k xs) {q : Nat} (hq : v.ownBlock = some q) : B ≤ q ∧ ∃ cs, w.heap[q]? = some (.cells cs e (0, 0)) := by
  rcases h.2 with ⟨rfl, _⟩ | ⟨g, cap, cur, rfl, hb, hg, _⟩
  · cases hq
  · simp only [Value.ownBlock, Option.some.injEq] at hq
    subst hq
    exact ⟨hb, _, hg⟩
theorem grown_row {w w' : World} {B : Nat} {e : TypeId} {n : Nat} {v v' : Value} {N m : Nat} {xs : List Value} (ho : w.ownsRow B e n v N xs)
    (hc : (∃ A c, v = .slice A N c ∧ v' = .slice A m c ∧ w.grownBy w' v.ownBlock) ∨ (w.grownBy w' none ∧ ∀ g, v'.ownBlock = some g → w.heap.size ≤ g)) : ∃ row, w.grownBy w' row ∧ ∀ q, row = some q → B ≤ q ∧ ∃ cs, w.heap[q]? = some (.cells cs e (0, 0)) := by
  rcases hc with ⟨A, c, _, _, hg⟩ | ⟨hg, _⟩
  · exact ⟨_, hg, fun q hq => own_blk ho hq⟩
  · exact ⟨_, hg, fun q hq => by cases hq⟩
theorem blk_kept {w w' : World} {row : Option Nat} {B : Nat} {e e' : TypeId} (hg : w.grownBy w' row) (hr : ∀ q, row = some q → B ≤ q ∧ ∃ cs, w.heap[q]? = some (.cells cs e (0, 0))) {gl : Nat} {cur : Array Value} {fr : Nat × Nat} (h : w.heap[gl]? = some (.cells cur e' fr)) (hne : e' ≠ e) : w'.heap[gl]? = some (.cells cur e' fr) :=
  (hg.block gl (Array.getElem?_eq_some_iff.1 h).1 (fun he => by
    obtain ⟨_, cs, hq⟩ := hr gl he.symm
    rw [hq] at h
    injection h with h
    injection h with _ h2
    exact hne h2.symm)).trans h
theorem exc_kept {w w' : World} {row : Option Nat} {B : Nat} {e : TypeId} (hg : w.grownBy w' row) (hr : ∀ q, row = some q → B ≤ q ∧ ∃ cs, w.heap[q]? = some (.cells cs e (0, 0))) : Exc (fun q _ => B ≤ q) w w' :=
  Exc.of_grown hg (fun g o h1 _ => (hr g h1).1)
theorem keep_row {w w' : World} {row : Option Nat} {B B' n : Nat} {e e' : TypeId} (hg : w.grownBy w' row) (hr : ∀ q, row = some q → B ≤ q ∧ ∃ cs, w.heap[q]? = some (.cells cs e (0, 0))) (hne : e' ≠ e) : KeepR e' n B' w w' :=
  KeepR.of_grown hg (fun q hq => by obtain ⟨_, cs, h⟩ := hr q hq; exact ⟨cs, e, _, h, hne⟩)
theorem own_cell {w : World} {B : Nat} {e : TypeId} {n : Nat} {mk : Nat → Nat → List Value} (hm : ∀ i k, (mk i k).length = n) {g c i N k : Nat} (h : w.ownsRow B e n (.slice (some ⟨g, 0, none⟩) N c) N (Mks mk i N)) (hk : k < N) : ∀ j u, (mk i k)[j]? = some u → w.cell? ⟨g, k * n + j, none⟩ = some u := by
  obtain ⟨g', hg, _, hc⟩ := own_at hm h hk
  injection hg with hg
  injection hg with hg
  subst hg
  exact hc
theorem news_row (w : World) (cs : List Value) (t : TypeId) (fr : Nat × Nat) : ∀ j u, cs[j]? = some u → (w.alloc (.cells cs.toArray t fr)).cell? ((⟨w.heap.size, 0, none⟩ : Addr).add j) = some u := by
  intro j u hj
  rw [Addr.add_lit, cell_of_row _ _ _ _ _ _ (heap_alloc_new w _), Nat.zero_add]
  simpa using hj
theorem news_row2 (w : World) (o : Obj) (cs : List Value) (t : TypeId) (fr : Nat × Nat) : ∀ j u, cs[j]? = some u → ((w.alloc o).alloc (.cells cs.toArray t fr)).cell? ((⟨w.heap.size + 1, 0, none⟩ : Addr).add j) = some u := by
  rw [← World.size_alloc w o]
  exact news_row (w.alloc o) cs t fr
theorem own_exc {D : Nat → Obj → Prop} {B : Nat} {w w' : World} {e : TypeId} {n k : Nat} {v : Value} {xs : List Value} (h : w.ownsRow B e n v k xs) (hx : Exc D w w') (hd : ∀ q cs, B ≤ q → ¬ D q (.cells cs e (0, 0))) : w'.ownsRow B e n v k xs := by
  refine ⟨h.1, ?_⟩
  rcases h.2 with h0 | ⟨g, cap, cur, hv, hb, hg, r⟩
  · exact .inl h0
  · exact .inr ⟨g, cap, cur, hv, hb, hx.blk hg (hd g cur hb), r⟩
theorem exc_grown_new {D : Nat → Obj → Prop} {V w w' : World} {row : Option Nat} (h : Exc D V w) (hg : w.grownBy w' row) (hr : ∀ q, row = some q → V.heap.size ≤ q) : Exc D V w' :=
  ⟨hg.os.trans h.os, hg.tape.trans h.tape, hg.output.trans h.output, Nat.le_trans h.size hg.size, fun k o hk hd => by
    have h1 := h.block k o hk hd
    have h2 := (Array.getElem?_eq_some_iff.1 hk).1
    exact (hg.block k (Array.getElem?_eq_some_iff.1 h1).1 (fun e => by have := hr k e.symm; omega)).trans h1⟩
theorem sep_push {w w' : World} {B B' : Nat} {e : TypeId} {n : Nat} {v v' u : Value} {N m M : Nat} {xs ys : List Value} (ho : w.ownsRow B e n v N xs) (hu : w.ownsRow B' e n u M ys) (hs : ∀ q, v.ownBlock = some q → u.ownBlock ≠ some q)
    (hc : (∃ A c, v = .slice A N c ∧ v' = .slice A m c ∧ w.grownBy w' v.ownBlock) ∨ (w.grownBy w' none ∧ ∀ g, v'.ownBlock = some g → w.heap.size ≤ g)) : w'.ownsRow B' e n u M ys ∧ (∀ q, v'.ownBlock = some q → u.ownBlock ≠ some q) := by
  rcases hc with ⟨A, c, rfl, rfl, hg⟩ | ⟨hg, hn⟩
  · refine ⟨hu.kept hg ?_, fun q hq => hs q ?_⟩
    · cases hv : u.ownBlock with
      | none => exact .inl rfl
      | some q => exact .inr fun he => hs q he.symm hv
    · cases A
      · cases hq
      · exact hq
  · refine ⟨hu.kept hg ?_, fun q hq he => ?_⟩
    · cases hv : u.ownBlock with
      | none => exact .inl rfl
      | some q => exact .inr (by simp)
    · have h1 := hn q hq
      have h2 := (hu.lt q he).2
      omega
end Go.Proofs.Ytijlaknfagpglaa
