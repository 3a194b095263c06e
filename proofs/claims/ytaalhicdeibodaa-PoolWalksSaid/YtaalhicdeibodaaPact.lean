/- Layer 10: what the laws of pools share. No condition. -/
import Derived.Test.YtaalhicdeibodaaParg
import Derived.Test.YtaalhicdeibodaaPx
import Derived.Test.YtaalhicdeibodaaPy
namespace Go.Proofs.Ytaalhicdeibodaa
open Go.RowKit Go.Proofs Go.Shelf
set_option linter.unusedVariables false
def didL (s : Pl) (l : List Opp) : Pl := l.foldl (fun s o => s.did o.k o.n) s
theorem didL_nil (s : Pl) : didL s [] = s := rfl
theorem didL_step (s : Pl) {l : List Opp} {k : Nat} {o : Opp} (h : l[k]? = some o) : didL s (l.take (k + 1)) = (didL s (l.take k)).did o.k o.n := by
  rw [List.take_add_one, h]
  simp [didL, List.foldl_append]
/-- A list of the law's own that no pool's act turns. -/
structure Kep (m : Pm) (w : World) (A : Option Addr) (c : Nat) (l : List Int) : Prop where
  nl : NLi w A c l
  off : ∀ b o, A = some ⟨b, o, none⟩ → 0 < l.length → ¬ m.foot b
theorem Kep.of_row {B N : Nat} {w w' : World} {m : Pm} {s : Pl} {A : Option Addr} {c : Nat} {l : List Int} (h : RowI w.heap.size w' A c l) (hb : NLi w' A c l) (hP : PoolS B N w m s) : Kep m w' A c l := by
  refine ⟨hb, fun b o e hn hf => ?_⟩
  obtain ⟨g, e', _, hg, _⟩ := h.at hn
  rw [e'] at e
  injection e with e
  injection e with e
  have := hP.foot_lt hf
  omega
theorem Kep.ext {m : Pm} {w w' : World} {A : Option Addr} {c : Nat} {l : List Int} (h : Kep m w A c l) (he : Ext w w') : Kep m w' A c l := ⟨h.nl.ext he, h.off⟩
theorem cell_exc {D : Nat → Obj → Prop} {w w' : World} {b o : Nat} {v : Value} (hx : Exc D w w') (h : w.cell? ⟨b, o, none⟩ = some v) (hd : ∀ ob, ¬ D b ob) : w'.cell? ⟨b, o, none⟩ = some v := by
  have hb := lt_of_cellP h
  have h1 : w.heap[b]? = some w.heap[b] := Array.getElem?_eq_getElem hb
  have h2 := hx.block b _ h1 (hd _)
  simp only [World.cell?] at h ⊢
  rw [h1] at h
  rw [h2]
  exact h
theorem Kep.moved {m m' : Pm} {w w' : World} {A : Option Addr} {c : Nat} {l : List Int} (h : Kep m w A c l) (hm : Moved m m' w w') : Kep m' w' A c l := by
  refine ⟨⟨fun hn => ?_, h.nl.le, h.nl.bd⟩, fun b o e hn hf => ?_⟩
  · obtain ⟨b, off, hA, hc⟩ := h.nl.rd hn
    exact ⟨b, off, hA, fun i z hi => cell_exc hm.x (hc i z hi) (fun _ => h.off b off hA hn)⟩
  · obtain ⟨b', off, hA, hc⟩ := h.nl.rd hn
    rw [hA] at e
    injection e with e
    injection e with e
    subst e
    have hlt := lt_of_cellP (hc 0 _ (List.getElem?_eq_getElem hn))
    rcases hm.foot _ hf with e | e
    · exact h.off _ _ hA hn e
    · omega
theorem Kep.movedX {m m' k k' : Pm} {w w' : World} {A : Option Addr} {c : Nat} {l : List Int} (h : Kep m w A c l) (hk : Kep k w A c l) (hm : Moved k k' w w') : Kep m w' A c l := ⟨(hk.moved hm).nl, h.off⟩
theorem Moved.toExt {B N : Nat} {w0 w w' : World} {m m' : Pm} {s : Pl} (h : Moved m m' w w') (hP : PoolS B N w m s) (h0 : Ext w0 w) (hB : w0.heap.size ≤ B) : Ext w0 w' := h.x.to_ext h0 (fun q o hq => Nat.le_trans hB (hP.foot_lt hq).1)
end Go.Proofs.Ytaalhicdeibodaa
