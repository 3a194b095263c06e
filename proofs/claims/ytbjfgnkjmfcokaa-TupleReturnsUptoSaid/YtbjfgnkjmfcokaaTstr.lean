/- Layer 3: bytes of a string, a string of bytes. No condition but that what is read lies in memory. -/
import Derived.Test.YtbjfgnkjmfcokaaTval
import Derived.Lib.ConvBytes
import Derived.Laws.IdiomStrings
import Derived.Laws.BytesArg
namespace Go.Proofs.Ytbjfgnkjmfcokaa
open Go.RowKit Go.Proofs
theorem ext_bytes (w : World) (e : TypeId) (s : ByteArray) : Ext w (Lib.bytesWorld w e s) := by
  refine ⟨?_, ?_, ?_, by rw [Lib.bytesWorld_size]; omega, fun k hk => Lib.bytesWorld_at_old w e s k hk⟩
  · unfold Lib.bytesWorld World.freeze; rw [if_neg (by decide)]; rfl
  · unfold Lib.bytesWorld World.freeze; rw [if_neg (by decide)]; rfl
  · unfold Lib.bytesWorld World.freeze; rw [if_neg (by decide)]; rfl
theorem sl_bytes {w : World} {e : TypeId} {bs : List UInt8} (hl : bs.length ≤ 140737488355328) : Sl (Lib.bytesWorld w e ⟨bs.toArray⟩) (some ⟨w.heap.size, 0, none⟩) (grownCap w bs.length 0 e) bs := by
  refine ⟨fun _ => ⟨_, 0, rfl, fun i hi => ?_⟩, hl, grownCap_ge _ _ _ _, ?_⟩
  · have := Lib.bytesWorld_cell w e ⟨bs.toArray⟩ i (by simpa [ByteArray.size] using hi)
    rw [Nat.zero_add, this]
    simp [at8]
  · have := grownCap_le_maxLen w bs.length 0 e (by unfold maxLen; omega)
    simpa [maxLen] using this
/-- '[]byte(s)'. -/
theorem wpList_bytes_of {w : World} {ops : Array Oper} {rest : List Oper} {o : Oper} {a : Act} {Q : Exit → Act → World → Prop}
    (hg : o.guard = none) (src dst e : TypeId) (x : Operand) (ho : o.op = .convert src dst x) (bs : List UInt8) (hx : a.eval x = .string ⟨bs.toArray⟩) {u : TypeDesc}
    (hs : Try.prog.underlying src = some u) (hd : Try.prog.underlying dst = some (.slice e)) (he : Try.prog.underlying e = some (.int .u8)) (hl : bs.length ≤ 140737488355328)
    (h : ∀ A c w', Sl w' A c bs → Ext w w' → wpList Try.prog ops Q rest (a.put o.dst (.slice A bs.length c)) w') : wpList Try.prog ops Q (o :: rest) a w := by
  refine wpList_plain hg fun K hK' => ?_
  have hrun := Lib.run_convert_string_bytes (P := Try.prog) w src dst e ⟨bs.toArray⟩ hs hd he
  have hsz : (⟨bs.toArray⟩ : ByteArray).size = bs.length := by simp [ByteArray.size]
  rw [hsz] at hrun
  unfold Oper.wp
  simp [execOp, ho, hx, hrun, Result.andThen]
  exact hK' _ _ (h _ _ _ (sl_bytes hl) (ext_bytes _ _ _))
/-- 'string(b)'. -/
theorem run_string_of {w : World} {A : Option Addr} {c : Nat} {bs : List UInt8} (src dst e : TypeId) (hs : Try.prog.underlying src = some (.slice e)) (he : Try.prog.underlying e = some (.int .u8)) (hd : Try.prog.underlying dst = some .string) (h : Rd w A bs) :
    (convert src dst (.slice A bs.length c)).run Try.prog w = .ok (.string ⟨bs.toArray⟩) w := by
  cases A with
  | none =>
    cases bs with
    | nil => exact run_convert_bytes_nil w src e hs he 0 c dst hd
    | cons b bs => obtain ⟨_, _, hA, _⟩ := h (by simp); cases hA
  | some a =>
    refine run_convert_bytes_back w src dst e a c bs hs he hd fun j hj => ?_
    obtain ⟨b, off, hA, hc⟩ := h (by omega)
    injection hA with hA
    subst hA
    rw [Addr.add_lit, hc j hj]
    simp [at8, hj]
end Go.Proofs.Ytbjfgnkjmfcokaa
