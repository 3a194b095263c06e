/- SpanAnswers: words for calls and answers. No condition. -/
import Derived.Test.YtijlaknfagpglaaRcv
import Derived.Test.YtijlaknfagpglaaOnef
import Derived.Test.YtijlaknfagpglaaRmq
import Derived.Test.YtijlaknfagpglaaSpank
import Derived.Test.YtijlaknfagpglaaSpang
import Derived.Test.YtijlaknfagpglaaAparw
namespace Go.Proofs.Ytijlaknfagpglaa
open Go.RowKit Go.Proofs
set_option linter.unusedVariables false
set_option linter.unusedSimpArgs false
/-- A call with its lists. -/
structure Opn where
  kind : Int
  aA : Option Addr
  ac : Nat
  a : List UInt8
  bA : Option Addr
  bc : Nat
  b : List UInt8
  r : Fr
  s : Fr
  lA : Option Addr
  lc : Nat
  l : List Fr
abbrev Opn.cs (o : Opn) : List Value := [.int .i64 o.kind, .slice o.aA o.a.length o.ac, .slice o.bA o.b.length o.bc, .slice o.r.lA o.r.lo.length o.r.lc, .slice o.r.hA o.r.hi.length o.r.hc, .bool o.r.op, .slice o.s.lA o.s.lo.length o.s.lc, .slice o.s.hA o.s.hi.length o.s.hc, .bool o.s.op, .slice o.lA o.l.length o.lc]
abbrev Opn.v (o : Opn) : Value := .agg #[.int .i64 o.kind, .slice o.aA o.a.length o.ac, .slice o.bA o.b.length o.bc, .slice o.r.lA o.r.lo.length o.r.lc, .slice o.r.hA o.r.hi.length o.r.hc, .bool o.r.op, .slice o.s.lA o.s.lo.length o.s.lc, .slice o.s.hA o.s.hi.length o.s.hc, .bool o.s.op, .slice o.lA o.l.length o.lc]
def smallL (bs : List UInt8) : Prop := bs.length ≤ 140737488351232
/-- A call that can be read. -/
structure OpR (w : World) (o : Opn) : Prop where
  a : Sl w o.aA o.ac o.a
  b : Sl w o.bA o.bc o.b
  rl : Sl w o.r.lA o.r.lc o.r.lo
  rh : Sl w o.r.hA o.r.hc o.r.hi
  sl : Sl w o.s.lA o.s.lc o.s.lo
  sh : Sl w o.s.hA o.s.hc o.s.hi
  l : RowR w o.lA o.l
  n : o.l.length ≤ 60
  le : o.l.length ≤ o.lc
  cap : o.lc ≤ 9223372036854775807
  za : smallL o.a
  zb : smallL o.b
  zrl : smallL o.r.lo
  zrh : smallL o.r.hi
  zsl : smallL o.s.lo
  zsh : smallL o.s.hi
  zl : ∀ f ∈ o.l, smallL f.lo ∧ smallL f.hi
theorem OpR.ext {w w' : World} {o : Opn} (h : OpR w o) (he : Ext w w') : OpR w' o := ⟨h.a.ext he, h.b.ext he, h.rl.ext he, h.rh.ext he, h.sl.ext he, h.sh.ext he, h.l.ext he, h.n, h.le, h.cap, h.za, h.zb, h.zrl, h.zrh, h.zsl, h.zsh, h.zl⟩
/-- What a call says. -/
structure Opp where
  kind : Int
  a : List UInt8
  b : List UInt8
  r : Rg
  s : Rg
  l : List Rg
abbrev Opn.p (o : Opn) : Opp := ⟨o.kind, o.a, o.b, rg o.r, rg o.s, o.l.map rg⟩
/-- What an answer says. -/
@[ext] structure Ansp where
  n : Int
  is : Bool
  k : List UInt8
  l : List Rg
/-- The answer to a call. -/
def AnsIs (p : Opp) (x : Ansp) : Prop :=
  if p.kind = 0 then x = ⟨cmpB p.a p.b, false, [], []⟩
  else if p.kind = 1 then x = ⟨0, false, nextB p.a, []⟩
  else if p.kind = 2 then x = ⟨comB p.a p.b, false, [], []⟩
  else if p.kind = 3 then x = ⟨0, (betwB p.a p.b).isSome, betwK p.a p.b, []⟩
  else if p.kind = 4 then x = ⟨0, hasB p.r p.a, [], []⟩
  else if p.kind = 5 then x = ⟨0, emptyB p.r, [], []⟩
  else if p.kind = 6 then x = ⟨0, equalB p.r p.s, [], []⟩
  else if p.kind = 7 then x = ⟨0, false, [], [meetB p.r p.s]⟩
  else if p.kind = 8 then x = ⟨0, false, [], [aboveR p.a]⟩
  else if p.kind = 9 then x = ⟨0, false, [], [lowB p.r p.a, highB p.r p.a]⟩
  else x.n = 0 ∧ x.is = false ∧ x.k = [] ∧ CovOf p.l x.l
theorem AnsIs.uniq {p : Opp} {x y : Ansp} (h : AnsIs p x) (k : AnsIs p y) : x = y := by
  unfold AnsIs at h k
  repeat' split at h
  all_goals first
    | (simp only [*, if_true, if_false] at h k; exact h.trans k.symm)
    | skip
  all_goals (simp only [*, if_true, if_false] at k)
  all_goals first
    | (subst h; exact k.symm)
    | (obtain ⟨h1, h2, h3, h4⟩ := h
       obtain ⟨k1, k2, k3, k4⟩ := k
       exact Ansp.ext (h1.trans k1.symm) (h2.trans k2.symm) (h3.trans k3.symm) (h4.uniq k4))
abbrev fv (f : Fr) : List Value := [.slice f.lA f.lo.length f.lc, .slice f.hA f.hi.length f.hc]
/-- An answer in memory of its own. -/
def AnsO (ap : Bool) (B : Nat) (w : World) (v : Value) (x : Ansp) : Prop := ∃ (kA : Option Addr) (kc : Nat) (lv : Value) (fs : List Fr),
  v = .agg #[.int .i64 x.n, .bool x.is, .slice kA x.k.length kc, lv] ∧ Own 5 B w kA kc x.k ∧ w.ownsRow B 32 3 lv fs.length (fs.flatMap c3) ∧
  (∀ f ∈ fs, Own 5 B w f.lA f.lc f.lo ∧ Own 5 B w f.hA f.hc f.hi) ∧ x.l = fs.map rg ∧ (smallL x.k ∧ (∀ f ∈ fs, smallL f.lo ∧ smallL f.hi) ∧ fs.length ≤ 61) ∧
  (ap = true → (Value.slice kA x.k.length kc :: fs.flatMap fv).Pairwise NoShare)
theorem own_exc1 {D : Nat → Obj → Prop} {B : Nat} {w w' : World} {A : Option Addr} {c : Nat} {bs : List UInt8} (h : Own 5 B w A c bs) (hx : Exc D w w') (hd : ∀ k o, D k o → k < B) : Own 5 B w' A c bs :=
  own_exc h hx (fun q cs h1 h2 => by have := hd _ _ h2; omega)
theorem AnsO.exc {D : Nat → Obj → Prop} {ap : Bool} {B : Nat} {w w' : World} {v : Value} {x : Ansp} (h : AnsO ap B w v x) (hx : Exc D w w') (hd : ∀ k o, D k o → k < B) : AnsO ap B w' v x := by
  obtain ⟨kA, kc, lv, fs, h1, h2, h3, h4, h5⟩ := h
  exact ⟨kA, kc, lv, fs, h1, own_exc1 h2 hx hd, own_exc h3 hx (fun q cs h1 h2 => by have := hd _ _ h2; omega), fun f hf => ⟨own_exc1 (h4 f hf).1 hx hd, own_exc1 (h4 f hf).2 hx hd⟩, h5⟩
theorem AnsO.ext {ap : Bool} {B : Nat} {w w' : World} {v : Value} {x : Ansp} (h : AnsO ap B w v x) (he : Ext w w') : AnsO ap B w' v x := h.exc (D := fun _ _ => False) (Exc.of_ext he) (fun _ _ h => h.elim)
theorem AnsO.mono {ap : Bool} {B B' : Nat} {w : World} {v : Value} {x : Ansp} (h : AnsO ap B w v x) (hB : B' ≤ B) : AnsO ap B' w v x := by
  obtain ⟨kA, kc, lv, fs, h1, h2, h3, h4, h5⟩ := h
  exact ⟨kA, kc, lv, fs, h1, h2.mono hB, own_mono h3 hB, fun f hf => ⟨(h4 f hf).1.mono hB, (h4 f hf).2.mono hB⟩, h5⟩
theorem small_nil : smallL [] := by unfold smallL; simp
theorem small24 {l : List UInt8} (h : l.length ≤ 24) : smallL l := by unfold smallL; omega
theorem AnsO.k {ap : Bool} {B : Nat} {w : World} {kA : Option Addr} {kc : Nat} {bs : List UInt8} (n : Int) (is : Bool) (h : Own 5 B w kA kc bs) (hs : smallL bs) : AnsO ap B w (.agg #[.int .i64 n, .bool is, .slice kA bs.length kc, .slice none 0 0]) ⟨n, is, bs, []⟩ :=
  ⟨kA, kc, .slice none 0 0, [], rfl, h, owned_nil _ _ _ _, fun f hf => (by cases hf), rfl, ⟨hs, fun f hf => (by cases hf), by simp⟩, fun _ => by simp⟩
theorem AnsO.n {ap : Bool} {B : Nat} {w : World} (n : Int) (is : Bool) : AnsO ap B w (.agg #[.int .i64 n, .bool is, .slice none 0 0, .slice none 0 0]) ⟨n, is, [], []⟩ := AnsO.k (bs := []) n is (own_nil _ _ _) small_nil
theorem row_lit {w : World} {B g : Nat} {fs : List Fr} (h : w.heap[g]? = some (.cells (fs.flatMap c3).toArray 32 (0, 0))) (hB : B ≤ g) (hl : fs.length ≤ 61) : w.ownsRow B 32 3 (.slice (some ⟨g, 0, none⟩) fs.length fs.length) fs.length (fs.flatMap c3) :=
  ⟨len_flat fs, .inr ⟨g, fs.length, _, rfl, hB, h, Nat.le_refl _, by simp [maxLen]; omega, by rw [List.size_toArray, len_flat], List.take_of_length_le (by rw [len_flat]; exact Nat.le_refl _)⟩⟩
theorem AnsO.l {ap : Bool} {B g : Nat} {w : World} {fs : List Fr} (h : w.heap[g]? = some (.cells (fs.flatMap c3).toArray 32 (0, 0))) (hB : B ≤ g) (hl : fs.length ≤ 61) (ho : ∀ f ∈ fs, Own 5 B w f.lA f.lc f.lo ∧ Own 5 B w f.hA f.hc f.hi)
    (hs : ∀ f ∈ fs, smallL f.lo ∧ smallL f.hi) (hp : ap = true → (fs.flatMap fv).Pairwise NoShare) {n : Nat} (hn : n = fs.length) {rs : List Rg} (hr : rs = fs.map rg) : AnsO ap B w (.agg #[.int .i64 0, .bool false, .slice none 0 0, .slice (some ⟨g, 0, none⟩) n n]) ⟨0, false, [], rs⟩ := by
  subst hn hr
  exact ⟨none, 0, _, fs, rfl, own_nil _ _ _, row_lit h hB hl, ho, rfl, ⟨small_nil, hs, hl⟩, fun e => List.pairwise_cons.2 ⟨fun v _ => noShare_nil' v, hp e⟩⟩
theorem nodup_apart : ∀ (l : List Value), (l.flatMap fun v => v.ownBlock.toList).Nodup → l.Pairwise NoShare
  | [], _ => List.Pairwise.nil
  | v :: l, h => by
    rw [List.flatMap_cons] at h
    obtain ⟨h1, h2, h3⟩ := List.nodup_append.1 h
    refine List.pairwise_cons.2 ⟨fun u hu g hv he => ?_, nodup_apart l h2⟩
    exact h3 g (by rw [hv]; simp) g (List.mem_flatMap.2 ⟨u, hu, by rw [he]; simp⟩) rfl
theorem ownl_apart {B : Nat} {w : World} {fs : List Fr} (h : OwnL B w fs) : (fs.flatMap fv).Pairwise NoShare := by
  refine nodup_apart _ ?_
  rw [List.flatMap_assoc]
  have e : (fs.flatMap fun f => (fv f).flatMap fun v => v.ownBlock.toList) = fs.flatMap bl := by
    congr 1
    funext f
    simp [bl]
  rw [e]
  exact h.apart
theorem AnsO.cov {ap : Bool} {B : Nat} {w : World} {v : Value} {fs : List Fr} (h : w.ownsRow B 32 3 v fs.length (fs.flatMap c3)) (hO : OwnL B w fs) (hl : fs.length ≤ 61) : AnsO ap B w (.agg #[.int .i64 0, .bool false, .slice none 0 0, v]) ⟨0, false, [], fs.map rg⟩ :=
  ⟨none, 0, v, fs, rfl, own_nil _ _ _, h, hO.each, rfl, ⟨small_nil, fun f hf => ⟨small24 (hO.len hf).1, small24 (hO.len hf).2⟩, hl⟩, fun e => List.pairwise_cons.2 ⟨fun v _ => noShare_nil' v, ownl_apart hO⟩⟩
theorem small_max {a b : List UInt8} (ha : smallL a) (hb : smallL b) : smallL (maxB a b) := by unfold maxB; split <;> assumption
theorem small_min {a b : List UInt8} (ha : smallL a) (hb : smallL b) : smallL (minB a b) := by unfold minB; split <;> assumption
theorem small_up {a : List UInt8} (ha : smallL a) : smallL (upB a) := Nat.le_trans (upB_length a) ha
theorem small_betw (a b : List UInt8) : smallL (betwK a b) := by
  unfold betwK
  cases h : betwB a b with
  | none => exact small_nil
  | some k => exact small24 (betwB_some h).2.1
theorem small_meet {r s : Rg} (h1 : smallL r.lo) (h2 : smallL r.hi) (h3 : smallL s.lo) (h4 : smallL s.hi) : smallL (meetB r s).lo ∧ smallL (meetB r s).hi := by
  refine ⟨small_max h1 h3, ?_⟩
  unfold meetB
  dsimp only
  split
  · exact small_nil
  · split
    · exact h4
    · split
      · exact h2
      · exact small_min h2 h4
theorem small_low {r : Rg} {k : List UInt8} (h1 : smallL r.lo) (h2 : smallL r.hi) (h3 : smallL k) : smallL (lowB r k).lo ∧ smallL (lowB r k).hi := by
  refine ⟨h1, ?_⟩
  unfold lowB
  dsimp only
  split
  · exact h3
  · exact small_min h2 h3
theorem small_high {r : Rg} {k : List UInt8} (h1 : smallL r.lo) (h2 : smallL r.hi) (h3 : smallL k) : smallL (highB r k).lo ∧ smallL (highB r k).hi := by
  refine ⟨small_max h1 h3, ?_⟩
  unfold highB
  dsimp only
  split
  · exact small_nil
  · exact h2
/-- What a call of asked or told leaves. -/
def AskQ (ap : Bool) (w : World) (p : Opp) (e : Ending) (w' : World) : Prop := ∃ v x, e = .returned v ∧ AnsO ap w.heap.size w' v x ∧ AnsIs p x ∧ Ext w w'
theorem AnsO.only {ap : Bool} {B g : Nat} {w w' : World} {v : Value} {x : Ansp} (h : AnsO ap B w v x) (hg : w.grownBy w' (some g)) (hb : g < B) : AnsO ap B w' v x :=
  h.exc (D := fun q _ => q = g) (Exc.of_only hg (fun _ _ => rfl)) (fun k _ e => by rw [show k = g from e]; exact hb)
theorem ask_fin {ap : Bool} {w w2 w4 : World} {p : Opp} {v : Value} {x : Ansp} (hE : Ext w w2) (hA : AnsO ap (w.heap.size + 2) w2 v x) (hp : AnsIs p x) (hg : w2.grownBy w4 (some (w.heap.size + 1))) : AskQ ap w p (.returned v) w4 :=
  ⟨v, x, rfl, (hA.only hg (by omega)).mono (by omega), hp, ext_only hE hg (by omega)⟩
end Go.Proofs.Ytijlaknfagpglaa
