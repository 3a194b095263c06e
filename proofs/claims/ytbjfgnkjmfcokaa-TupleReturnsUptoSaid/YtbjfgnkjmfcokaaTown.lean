/- Layer 3: rows of values of the call's own. No condition. -/
import Derived.Test.YtbjfgnkjmfcokaaTlistw
namespace Go.Proofs.Ytbjfgnkjmfcokaa
open Go.RowKit Go.Proofs
set_option linter.unusedVariables false
theorem infoV : (Try.prog.info? 51).map (fun i => (i.zero, i.size, i.bytes)) = some (some (.agg #[.int .i64 0, .bool false, .int .i64 0, .int .u64 0, .int .u64 0, .int .u64 0, str []]), 7, 64) := by kernel_rfl
/-- A slice of values of the call's own, in a block from B on. -/
def OwnV (f : Vl → List Value) (n : Nat) (e : TypeId) (B : Nat) (w : World) (A : Option Addr) (c : Nat) (l : List Vl) : Prop := w.ownsRow B e n (.slice A l.length c) l.length (l.flatMap f)
abbrev OwnD := OwnV Vl.dc 7 51
abbrev OwnP := OwnV Vl.pc 6 56
section
variable {f : Vl → List Value} {n : Nat} {e : TypeId} {B : Nat} {w w' : World} {A : Option Addr} {c : Nat} {l : List Vl}
theorem OwnV.nil : OwnV f n e B w none 0 [] := ⟨by simp, .inl ⟨rfl, rfl⟩⟩
theorem OwnV.ext (h : OwnV f n e B w A c l) (he : Ext w w') : OwnV f n e B w' A c l := by
  refine ⟨h.1, ?_⟩
  rcases h.2 with h0 | ⟨g, cap, cur, hv, hb, hg, r⟩
  · exact .inl h0
  · exact .inr ⟨g, cap, cur, hv, hb, he.blk hg, r⟩
theorem OwnV.mono (h : OwnV f n e B w A c l) {B' : Nat} (hB : B' ≤ B) : OwnV f n e B' w A c l := by
  refine ⟨h.1, ?_⟩
  rcases h.2 with h0 | ⟨g, cap, cur, hv, hb, r⟩
  · exact .inl h0
  · exact .inr ⟨g, cap, cur, hv, Nat.le_trans hB hb, r⟩
theorem OwnV.vl (hf : ∀ x, (f x).length = n) (h : OwnV f n e B w A c l) (hl : l.length ≤ 2199023255552) (ok : ∀ v ∈ l, v.Ok) : VL f n w A c l := by
  refine ⟨fun hn => ?_, hl, ?_, ?_, ok⟩
  · obtain ⟨g, cap, hv, _, _⟩ := World.ownsRow.form h hn
    injection hv with hA
    subst hA
    refine ⟨g, 0, rfl, fun i v j u hv hu => ?_⟩
    have hj : j < n := by rw [← hf v]; exact (List.getElem?_eq_some_iff.1 hu).1
    have := h.cells (g := g) rfl (i * n + j) u (by rw [flat_at f n hf l i j v hv hj, hu])
    rwa [Addr.add_lit, show 0 + (i * n + j) = 0 + i * n + j by omega] at this
  · rcases h.2 with ⟨hv, h0⟩ | ⟨g, cap, cur, hv, _, _, hle, _⟩
    · omega
    · injection hv with _ _ hc
      subst hc
      exact hle
  · rcases h.2 with ⟨hv, h0⟩ | ⟨g, cap, cur, hv, _, _, _, hm, _⟩
    · injection hv with _ _ hc
      omega
    · injection hv with _ _ hc
      subst hc
      simpa [maxLen] using hm
theorem OwnV.push {v : Vl} {u : Value} (h : w.ownsRow B e n u (l.length + 1) (l.flatMap f ++ f v)) : ∃ A' c', u = .slice A' (l.length + 1) c' ∧ OwnV f n e B w A' c' (l ++ [v]) := by
  obtain ⟨A', c', rfl⟩ := slice_of_own h
  refine ⟨A', c', rfl, ?_⟩
  unfold OwnV
  rw [List.flatMap_append, List.flatMap_cons, List.flatMap_nil, List.append_nil, List.length_append]
  exact h
end
theorem news_of (w : World) (cs : List Value) (t : TypeId) (fr : Nat × Nat) : ∀ j u, cs[j]? = some u → (w.alloc (.cells cs.toArray t fr)).cell? ((⟨w.heap.size, 0, none⟩ : Addr).add j) = some u := by
  intro j u hj
  rw [Addr.add_lit, cell_of_row _ _ _ _ _ _ (heap_alloc_new w _), Nat.zero_add]
  simpa using hj
end Go.Proofs.Ytbjfgnkjmfcokaa
