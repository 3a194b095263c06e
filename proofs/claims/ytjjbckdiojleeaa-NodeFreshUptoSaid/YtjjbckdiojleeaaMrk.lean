/- Literals '[]byte("..")' in regions that draw their order: the relation under which rows of bytes may be marked. No condition. -/
import Derived.Test.YtjjbckdiojleeaaRg
import Derived.Test.YtjjbckdiojleeaaPage
import Derived.Test.YtjjbckdiojleeaaNpart
namespace Go.Proofs.Ytjjbckdiojleeaa
set_option linter.unusedVariables false
open Go.RowKit Go.Proofs
/-- The world has grown, and rows of bytes from C on may have been marked. -/
structure Mrk (C : Nat) (w w' : World) : Prop where
  x : Exc (fun k o => C ≤ k ∧ ∃ cs fr, o = .cells cs 5 fr) w w'
  keep : ∀ (k : Nat) (cs : Array Value) (fr : Nat × Nat), w.heap[k]? = some (.cells cs 5 fr) → ∃ fr', w'.heap[k]? = some (.cells cs 5 fr')
theorem Mrk.of_ext {C : Nat} {w w' : World} (h : Ext w w') : Mrk C w w' := ⟨Exc.of_ext h, fun k cs fr hk => ⟨fr, h.blk hk⟩⟩
theorem Mrk.trans {C : Nat} {a b c : World} (h : Mrk C a b) (k : Mrk C b c) : Mrk C a c := ⟨h.x.trans k.x, fun q cs fr hq => by
  obtain ⟨f1, h1⟩ := h.keep q cs fr hq
  exact k.keep q cs f1 h1⟩
theorem rel_mrk (C : Nat) : Rel (Mrk C) := ⟨Mrk.of_ext, Mrk.trans, fun h => h.x.size⟩
theorem Mrk.cell {C : Nat} {w w' : World} (h : Mrk C w w') {a : Addr} {v : Value} (hc : w.cell? a = some v) : w'.cell? a = some v := by
  unfold World.cell? at hc ⊢
  cases ho : w.heap[a.block]? with
  | none => rw [ho] at hc; cases hc
  | some o =>
    rw [ho] at hc
    by_cases hd : C ≤ a.block ∧ ∃ cs fr, o = .cells cs 5 fr
    · obtain ⟨_, cs, fr, rfl⟩ := hd
      obtain ⟨fr', h'⟩ := h.keep _ _ _ ho
      rw [h']
      exact hc
    · rw [h.x.blk ho hd]
      exact hc
theorem Mrk.blk {C : Nat} {w w' : World} (h : Mrk C w w') {g : Nat} {cs : Array Value} (hp : w.heap[g]? = some (.cells cs 26 (0, 0))) : w'.heap[g]? = some (.cells cs 26 (0, 0)) :=
  h.x.blk hp (fun ⟨_, _, _, e⟩ => by injection e with _ e; exact absurd e (by decide))
theorem Mrk.to_ext {C : Nat} {w0 w w' : World} (h : Mrk C w w') (h0 : Ext w0 w) (hC : w0.heap.size ≤ C) : Ext w0 w' := h.x.to_ext h0 (fun k o hd => by have := hd.1; omega)
theorem Sl.mrk {C : Nat} {w w' : World} {A : Option Addr} {c : Nat} {bs : List UInt8} (h : Sl w A c bs) (hm : Mrk C w w') : Sl w' A c bs :=
  ⟨fun hn => by obtain ⟨b, o, hA, hc⟩ := h.rd hn; exact ⟨b, o, hA, fun i hi => hm.cell (hc i hi)⟩, h.len, h.le, h.cap⟩
theorem ItC.mrk {C : Nat} {w w' : World} {b o : Nat} {x : It} (h : ItC w b o x) (hm : Mrk C w w') : ItC w' b o x := by
  obtain ⟨kA, kc, vA, vc, h1, h2, h3, h4, h5, h6⟩ := h
  exact ⟨kA, kc, vA, vc, hm.cell h1, hm.cell h2, hm.cell h3, hm.cell h4, h5.mrk hm, h6.mrk hm⟩
theorem Its.mrk {C : Nat} {w w' : World} {A : Option Addr} {c : Nat} {l : List It} (h : Its w A c l) (hm : Mrk C w w') : Its w' A c l :=
  ⟨fun hn => by obtain ⟨b, off, hA, hc⟩ := h.rd hn; exact ⟨b, off, hA, fun i x hx => (hc i x hx).mrk hm⟩, h.len, h.le, h.cap⟩
theorem PgV.mrk {C : Nat} {w w' : World} {v : Value} {p : Pg} (h : PgV w v p) (hm : Mrk C w w') : PgV w' v p := by
  obtain ⟨iA, ic, dA, dc, h1, h2, h3⟩ := h.ex
  exact ⟨iA, ic, dA, dc, h1, h2.mrk hm, h3.mrk hm⟩
/-- A literal's row, marked or not. -/
def LitM (C : Nat) (cs : Array Value) (v : Value) (w : World) : Prop := ∃ h fr, v = .slice (some ⟨h, 0, none⟩) cs.size cs.size ∧ C ≤ h ∧ w.heap[h]? = some (.cells cs 5 fr)
theorem LitM.lasts {C B : Nat} (cs : Array Value) (v : Value) : Lasts (Mrk B) (LitM C cs v) := fun w w' ⟨h, fr, h1, h2, h3⟩ hm => by
  obtain ⟨fr', h4⟩ := hm.keep _ _ _ h3
  exact ⟨h, fr', h1, h2, h4⟩
theorem LitM.sl {C : Nat} {bs : List UInt8} {A : Option Addr} {n c : Nat} {w : World} (h : LitM C (cells8 bs).toArray (.slice A n c) w) (hl : bs.length ≤ 64) : Sl w A bs.length bs := by
  obtain ⟨g, fr, e, _, hb⟩ := h
  injection e with e1 e2 e3
  subst e1
  refine ⟨fun _ => ⟨g, 0, rfl, fun i hi => ?_⟩, by omega, Nat.le_refl _, by omega⟩
  rw [cell_of_row w g _ _ _ fr hb, Nat.zero_add]
  have := cells8_at hi
  simpa using this
theorem Sl.litm {w : World} {g : Nat} (bs : List UInt8) (fr : Nat × Nat) (h : w.heap[g]? = some (.cells (cells8 bs).toArray 5 fr)) (hl : bs.length ≤ 64) : Sl w (some ⟨g, 0, none⟩) bs.length bs := by
  refine ⟨fun _ => ⟨g, 0, rfl, fun i hi => ?_⟩, by omega, Nat.le_refl _, by omega⟩
  rw [cell_of_row w g _ _ _ fr h, Nat.zero_add]
  have := cells8_at hi
  simpa using this
/-- The conversion of a literal's row marks it. -/
theorem run_convert_mark {w : World} {h : Nat} {cs : Array Value} {fr : Nat × Nat} {n c : Nat} (hb : w.heap[h]? = some (.cells cs 5 fr)) :
    (convert 24 24 (.slice (some ⟨h, 0, none⟩) n c)).run Try.prog w = .ok (.slice (some ⟨h, 0, none⟩) n c) (w.freeze ⟨h, cs.size, none⟩ 1) := by
  have hsh : w.shape? h = some (5, cs.size) := by
    unfold World.shape?
    rw [hb]
  simp [convert, run_underlying Try.underlying24, run_underlying Try.underlying5, markStringish, hsh]
theorem mrk_freeze {C : Nat} {w : World} {h k : Nat} {cs : Array Value} {fr : Nat × Nat} (hb : w.heap[h]? = some (.cells cs 5 fr)) (hC : C ≤ h) : Mrk C w (w.freeze ⟨h, k, none⟩ 1) := by
  have hE : ∀ q, (w.freeze ⟨h, k, none⟩ 1).heap[q]? = if h = q then (w.heap[q]?).map (fun | .cells c elem (lo, hi) => .cells c elem (if lo == hi then (k, k + 1) else (min lo k, max hi (k + 1))) | o => o) else w.heap[q]? := fun q => by
    unfold World.freeze
    rw [if_neg (by decide)]
    simp only [Array.getElem?_modify]
    by_cases h1 : h = q
    · simp only [h1, if_true]
      rfl
    · simp only [h1, if_false]
  refine ⟨⟨?_, ?_, ?_, ?_, fun q o hq hd => ?_⟩, fun q cs' fr' hq => ?_⟩
  · unfold World.freeze; rw [if_neg (by decide)]
  · unfold World.freeze; rw [if_neg (by decide)]
  · unfold World.freeze; rw [if_neg (by decide)]
  · unfold World.freeze; rw [if_neg (by decide)]; simp
  · rw [hE]
    by_cases h1 : h = q
    · subst h1
      rw [hb] at hq
      injection hq with hq
      exact absurd ⟨hC, cs, fr, hq.symm⟩ hd
    · rw [if_neg h1]; exact hq
  · rw [hE]
    by_cases h1 : h = q
    · rw [if_pos h1, hq]
      exact ⟨_, rfl⟩
    · rw [if_neg h1]; exact ⟨fr', hq⟩
end Go.Proofs.Ytjjbckdiojleeaa
