/- SpanAnswers: words for the round. No condition. The walk of the law SpanAnswers. No condition but sizes. -/
import Derived.Test.YtijlaknfagpglaaSqfg
import Derived.Test.YtijlaknfagpglaaSpanj
import Derived.Test.YtijlaknfagpglaaSask
import Derived.Test.YtijlaknfagpglaaStold
namespace Go.Proofs.Ytijlaknfagpglaa
open Go.RowKit Go.Proofs
set_option linter.unusedVariables false
set_option linter.unusedSimpArgs false
/-- A call of the script, however many ranges it has. -/
structure OpX (w : World) (o : Opn) : Prop where
  a : Sl w o.aA o.ac o.a
  b : Sl w o.bA o.bc o.b
  rl : Sl w o.r.lA o.r.lc o.r.lo
  rh : Sl w o.r.hA o.r.hc o.r.hi
  sl : Sl w o.s.lA o.s.lc o.s.lo
  sh : Sl w o.s.hA o.s.hc o.s.hi
  l : RowR w o.lA o.l
  le : o.l.length ≤ o.lc
  cap : o.lc ≤ 9223372036854775807
  za : smallL o.a
  zb : smallL o.b
  zrl : smallL o.r.lo
  zrh : smallL o.r.hi
  zsl : smallL o.s.lo
  zsh : smallL o.s.hi
  zl : ∀ f ∈ o.l, smallL f.lo ∧ smallL f.hi
def Opn.cut (o : Opn) : Opn := { o with l := o.l.take 60 }
theorem OpX.cut {w : World} {o : Opn} (h : OpX w o) : OpR w o.cut :=
  ⟨h.a, h.b, h.rl, h.rh, h.sl, h.sh, h.l.take 60, by simp [Opn.cut]; omega, by simp [Opn.cut]; have := h.le; omega, h.cap, h.za, h.zb, h.zrl, h.zrh, h.zsl, h.zsh, fun f hf => h.zl f (List.mem_of_mem_take hf)⟩
/-- The script. -/
structure OpsL (w : World) (A : Option Addr) (c : Nat) (os : List Opn) : Prop where
  rd : 0 < os.length → ∃ g o, A = some ⟨g, o, none⟩ ∧ ∀ (i : Nat) (x : Opn), os[i]? = some x → ∀ j, j < 10 → w.cell? ⟨g, o + i * 10 + j, none⟩ = x.cs[j]?
  ok : ∀ x ∈ os, OpX w x
  le : os.length ≤ c
  cap : c ≤ 9223372036854775807
theorem OpsL.take {w : World} {A : Option Addr} {c : Nat} {os : List Opn} (h : OpsL w A c os) (k : Nat) : OpsL w A c (os.take k) := by
  refine ⟨fun hn => ?_, fun o ho => h.ok o (List.mem_of_mem_take ho), ?_, h.cap⟩
  · obtain ⟨b, off, hA, hc⟩ := h.rd (by rw [List.length_take] at hn; omega)
    refine ⟨b, off, hA, fun i o ho => hc i o ?_⟩
    rw [List.getElem?_take] at ho
    split at ho
    · exact ho
    · cases ho
  · rw [List.length_take]
    have := h.le
    omega
theorem OpS.opr {B C : Nat} {w : World} {o p : Opn} (h : OpS B C w o) (hp : o.p = p.p) (hx : OpR w p) : OpR w o := by
  obtain ⟨kd, aA, ac, a, bA, bc, b, ⟨rlA, rlc, rlo, rhA, rhc, rhi, rop⟩, ⟨slA, slc, slo, shA, shc, shi, sop⟩, lA, lc, l⟩ := o
  obtain ⟨kd2, aA2, ac2, a2, bA2, bc2, b2, ⟨rlA2, rlc2, rlo2, rhA2, rhc2, rhi2, rop2⟩, ⟨slA2, slc2, slo2, shA2, shc2, shi2, sop2⟩, lA2, lc2, l2⟩ := p
  simp only [Opn.p, Opp.mk.injEq, Rg.mk.injEq] at hp
  obtain ⟨rfl, rfl, rfl, ⟨rfl, rfl, rfl⟩, ⟨rfl, rfl, rfl⟩, hll⟩ := hp
  obtain ⟨ha, hb, hrl, hrh, hsl, hsh, hl, gi, tl, hlA, hlc, hgB, hgC, hbl, htl, htr⟩ := h
  obtain ⟨sa, sb, srl, srh, ssl, ssh, sl, hn, hle, hcap, za, zb, zrl, zrh, zsl, zsh, zl⟩ := hx
  dsimp only at ha hb hrl hrh hsl hsh hl hlA hlc hbl za zb zrl zrh zsl zsh zl hn
  have hln : l.length = l2.length := by have := congrArg List.length hll; simpa using this
  have hz : ∀ f ∈ l, smallL f.lo ∧ smallL f.hi := fun f hf => by
    have h1 : rg f ∈ l.map rg := List.mem_map.2 ⟨f, hf, rfl⟩
    rw [hll] at h1
    obtain ⟨t, ht, h2⟩ := List.mem_map.1 h1
    obtain ⟨e1, e2, _⟩ := rg_inj h2
    rw [← e1, ← e2]
    exact zl t ht
  have k : ∀ {n : Nat}, n ≤ 140737488351232 → n ≤ 140737488355328 := fun h => by omega
  refine ⟨ha.sl (k za), hb.sl (k zb), hrl.sl (k zrl), hrh.sl (k zrh), hsl.sl (k zsl), hsh.sl (k zsh), ⟨fun hn0 => ⟨gi, 0, hlA, fun i f hf => ?_⟩, fun f hf => ⟨(hl f hf).1.sl (k (hz f hf).1), (hl f hf).2.sl (k (hz f hf).2)⟩⟩, by show l.length ≤ 60; omega, by show l.length ≤ lc; omega, by show lc ≤ _; omega, za, zb, zrl, zrh, zsl, zsh, hz⟩
  obtain ⟨z0, z1, z2⟩ := cells_at hbl (i := i) (f := f) (by rw [List.getElem?_append_left (List.getElem?_eq_some_iff.1 hf).1]; exact hf)
  rw [Nat.zero_add]
  exact ⟨z0, z1, z2⟩
theorem OpR.smalls {w : World} {o : Opn} (h : OpR w o) : smallL o.a ∧ smallL o.b ∧ smallL o.r.lo ∧ smallL o.r.hi ∧ smallL o.s.lo ∧ smallL o.s.hi ∧ ∀ f ∈ o.l, smallL f.lo ∧ smallL f.hi := ⟨h.za, h.zb, h.zrl, h.zrh, h.zsl, h.zsh, h.zl⟩
/-- An answer in memory, its parts named. -/
structure AnsW (ap : Bool) (B : Nat) (w : World) (x : Ansp) (kA : Option Addr) (kc : Nat) (lA : Option Addr) (lc : Nat) (fs : List Fr) : Prop where
  k : Own 5 B w kA kc x.k
  row : w.ownsRow B 32 3 (.slice lA fs.length lc) fs.length (fs.flatMap c3)
  ls : ∀ f ∈ fs, Own 5 B w f.lA f.lc f.lo ∧ Own 5 B w f.hA f.hc f.hi
  l : x.l = fs.map rg
  sm : smallL x.k ∧ (∀ f ∈ fs, smallL f.lo ∧ smallL f.hi) ∧ fs.length ≤ 61
  ap : ap = true → (Value.slice kA x.k.length kc :: fs.flatMap fv).Pairwise NoShare
abbrev ansC (x : Ansp) (kA : Option Addr) (kc : Nat) (lA : Option Addr) (lc : Nat) (fs : List Fr) : Array Value := #[.int .i64 x.n, .bool x.is, .slice kA x.k.length kc, .slice lA fs.length lc]
theorem AnsO.open_ {ap : Bool} {B : Nat} {w : World} {v : Value} {x : Ansp} (h : AnsO ap B w v x) : ∃ kA kc lA lc fs, v = .agg (ansC x kA kc lA lc fs) ∧ AnsW ap B w x kA kc lA lc fs := by
  obtain ⟨kA, kc, lv, fs, h1, h2, h3, h4, h5, h6, h7⟩ := h
  obtain ⟨A, c, rfl⟩ := slice_of_own h3
  exact ⟨kA, kc, A, c, fs, h1, h2, h3, h4, h5, h6, h7⟩
theorem AnsW.ans {ap : Bool} {B : Nat} {w : World} {x : Ansp} {kA lA : Option Addr} {kc lc : Nat} {fs : List Fr} (h : AnsW ap B w x kA kc lA lc fs) : AnsO ap B w (.agg (ansC x kA kc lA lc fs)) x :=
  ⟨kA, kc, _, fs, rfl, h.k, h.row, h.ls, h.l, h.sm, h.ap⟩
theorem AnsW.exc {D : Nat → Obj → Prop} {ap : Bool} {B : Nat} {w w' : World} {x : Ansp} {kA lA : Option Addr} {kc lc : Nat} {fs : List Fr} (h : AnsW ap B w x kA kc lA lc fs) (hx : Exc D w w') (hd : ∀ k o, D k o → k < B) : AnsW ap B w' x kA kc lA lc fs :=
  ⟨own_exc1 h.k hx hd, own_exc h.row hx (fun q cs h1 h2 => by have := hd _ _ h2; omega), fun f hf => ⟨own_exc1 (h.ls f hf).1 hx hd, own_exc1 (h.ls f hf).2 hx hd⟩, h.l, h.sm, h.ap⟩
theorem AnsW.ext {ap : Bool} {B : Nat} {w w' : World} {x : Ansp} {kA lA : Option Addr} {kc lc : Nat} {fs : List Fr} (h : AnsW ap B w x kA kc lA lc fs) (he : Ext w w') : AnsW ap B w' x kA kc lA lc fs := h.exc (D := fun _ _ => False) (Exc.of_ext he) (fun _ _ h => h.elim)
theorem AnsW.rowR {ap : Bool} {B : Nat} {w : World} {x : Ansp} {kA lA : Option Addr} {kc lc : Nat} {fs : List Fr} (h : AnsW ap B w x kA kc lA lc fs) : RowR w lA fs :=
  rowR_of (C := 0) h.row fun f hf => ⟨(h.ls f hf).1.sl (Nat.le_trans (h.sm.2.1 f hf).1 (by omega)), (h.ls f hf).2.sl (Nat.le_trans (h.sm.2.1 f hf).2 (by omega))⟩
/-- All lists of an answer. -/
abbrev ansL (x : Ansp) (kA : Option Addr) (kc : Nat) (fs : List Fr) : List Value := Value.slice kA x.k.length kc :: fs.flatMap fv
/-- Lists of bytes of one's own, from B on, below C. -/
def LotV (B C : Nat) (w : World) (L : List Value) : Prop := ∀ u ∈ L, ∃ A n c, u = .slice A n c ∧ n ≤ 140737488351232 ∧ (∃ xs, w.ownsRow B 5 1 u n xs) ∧ ∀ g, u.ownBlock = some g → B ≤ g ∧ g < C
theorem AnsW.lot {ap : Bool} {B : Nat} {w : World} {x : Ansp} {kA lA : Option Addr} {kc lc : Nat} {fs : List Fr} (h : AnsW ap B w x kA kc lA lc fs) : LotV B w.heap.size w (ansL x kA kc fs) := by
  intro u hu
  rcases List.mem_cons.1 hu with rfl | hu
  · exact ⟨_, _, _, rfl, h.sm.1, ⟨_, h.k⟩, fun g hg => World.ownsRow.lt h.k g hg⟩
  · obtain ⟨f, hf, hu⟩ := List.mem_flatMap.1 hu
    simp only [List.mem_cons, List.not_mem_nil, or_false] at hu
    rcases hu with rfl | rfl
    · exact ⟨_, _, _, rfl, (h.sm.2.1 f hf).1, ⟨_, (h.ls f hf).1⟩, fun g hg => World.ownsRow.lt (h.ls f hf).1 g hg⟩
    · exact ⟨_, _, _, rfl, (h.sm.2.1 f hf).2, ⟨_, (h.ls f hf).2⟩, fun g hg => World.ownsRow.lt (h.ls f hf).2 g hg⟩
theorem LotV.exc {D : Nat → Obj → Prop} {B C : Nat} {w w' : World} {L : List Value} (h : LotV B C w L) (hx : Exc D w w') (hd : ∀ k o, D k o → k < B) : LotV B C w' L := fun u hu => by
  obtain ⟨A, n, c, h1, h2, ⟨xs, h3⟩, h4⟩ := h u hu
  exact ⟨A, n, c, h1, h2, ⟨xs, own_exc h3 hx (fun q cs h1 h2 => by have := hd _ _ h2; omega)⟩, h4⟩
theorem LotV.ext {B C : Nat} {w w' : World} {L : List Value} (h : LotV B C w L) (he : Ext w w') : LotV B C w' L := h.exc (D := fun _ _ => False) (Exc.of_ext he) (fun _ _ h => h.elim)
theorem LotV.low {B B' C : Nat} {w : World} {L : List Value} (h : LotV B C w L) (hB : B' ≤ B) : LotV B' C w L := fun u hu => by
  obtain ⟨A, n, c, h1, h2, ⟨xs, h3⟩, h4⟩ := h u hu
  exact ⟨A, n, c, h1, h2, ⟨xs, own_mono h3 hB⟩, fun g hg => ⟨by have := (h4 g hg).1; omega, (h4 g hg).2⟩⟩
theorem LotV.apart {B C B' C' : Nat} {w : World} {L M : List Value} (h : LotV B C w L) (k : LotV B' C' w M) (hC : C ≤ B') : ∀ u ∈ L, ∀ v ∈ M, NoShare u v := fun u hu v hv g h1 h2 => by
  obtain ⟨_, _, _, _, _, _, k1⟩ := h u hu
  obtain ⟨_, _, _, _, _, _, k2⟩ := k v hv
  have := k1 g h1
  have := k2 g h2
  omega
def toHd : Value → Hd
  | .slice A k c => ⟨A, k, c⟩
  | _ => ⟨none, 0, 0⟩
theorem apart_map {L : List Value} {hs : List Hd} (hp : L.Pairwise NoShare) (hv : ∀ (j : Nat) (h : Hd), hs[j]? = some h → L[j]? = some h.v) : ApartH hs := by
  have key : ∀ (j1 j2 : Nat) (h1 h2 : Hd), hs[j1]? = some h1 → hs[j2]? = some h2 → j1 < j2 → NoShare h1.v h2.v := fun j1 j2 h1 h2 e1 e2 hlt => by
    have k1 := hv j1 h1 e1
    have k2 := hv j2 h2 e2
    obtain ⟨l1, k1⟩ := List.getElem?_eq_some_iff.1 k1
    obtain ⟨l2, k2⟩ := List.getElem?_eq_some_iff.1 k2
    rw [← k1, ← k2]
    exact List.pairwise_iff_getElem.1 hp j1 j2 l1 l2 hlt
  intro j1 j2 h1 h2 q e1 e2 hne hq
  rcases Nat.lt_or_gt_of_ne hne with hlt | hlt
  · exact key j1 j2 h1 h2 e1 e2 hlt q hq
  · exact fun h => key j2 j1 h2 h1 e2 e1 hlt q h hq
theorem row_fit {W : World} {B : Nat} {e : TypeId} {size n c : Nat} {A : Option Addr} {xs : List Value} (h : W.ownsRow B e size (.slice A n c) n xs) (hn : 0 < n) : ∃ (g : Nat) (cur : Array Value), A = some ⟨g, 0, none⟩ ∧ W.heap[g]? = some (.cells cur e (0, 0)) ∧ n ≤ c ∧ ∀ (j : Nat) (u : Value), xs[j]? = some u → cur[j]? = some u := by
  have hl := h.1
  rcases h.2 with ⟨hv, h0⟩ | ⟨g, cap, cur, hv, hb, hg, hle, hm, hs, ht⟩
  · injection hv with _ h1; omega
  · injection hv with h1 _ h3
    subst h1 h3
    refine ⟨g, cur, rfl, hg, hle, fun j u hj => ?_⟩
    rw [← ht, List.getElem?_take] at hj
    split at hj
    · rw [← Array.getElem?_toList]; exact hj
    · cases hj
/-- Apart over lists of one's own. -/
theorem apart_lot {B C n c : Nat} {A : Option Addr} {w : World} {L : List Value} (hr : w.ownsRow B 22 1 (.slice A n c) n L) (hn : 0 < n) (hn2 : n ≤ 1000) (hl : LotV B C w L) (hp : L.Pairwise NoShare) (hB : B ≤ w.heap.size) :
    Calls Try.prog 41 #[.slice A n c] w fun e w' => e = .returned (.bool true) ∧ Exc (fun q _ => B ≤ q) w w' := by
  obtain ⟨g, cur, rfl, hg, hle, hc⟩ := row_fit hr hn
  have hL : L.length = n := by have := hr.1; omega
  have key : ∀ (j : Nat) (h : Hd), (L.map toHd)[j]? = some h → L[j]? = some h.v ∧ h.k ≤ 140737488351232 ∧ ∃ xs, w.ownsRow B 5 1 h.v h.k xs := fun j h hj => by
    rw [List.getElem?_map] at hj
    obtain ⟨u, hu, rfl⟩ := Option.map_eq_some_iff.1 hj
    obtain ⟨A', n', c', rfl, h1, h2, _⟩ := hl u (List.mem_of_getElem? hu)
    exact ⟨hu, h1, h2⟩
  have h1 := rapart_any (hs := L.map toHd) (cl := c) hg (fun j h hj => hc j _ (key j h hj).1) (by rw [List.length_map, hL]; omega) (by rw [List.length_map, hL]; exact hle) (fun h hm => by
    obtain ⟨j, hj, he⟩ := List.mem_iff_getElem.1 hm
    have := (key j h (by rw [List.getElem?_eq_getElem hj, he])).2.1
    omega) hB (apart_map hp (fun j h hj => (key j h hj).1)) (fun j h hj => (key j h hj).2.2)
  rwa [List.length_map, hL] at h1
end Go.Proofs.Ytijlaknfagpglaa

namespace Go.Proofs.Ytijlaknfagpglaa
open Go.RowKit Go.Proofs
set_option linter.unusedVariables false
set_option linter.unusedSimpArgs false
def ToldV (p : Opp) (v : Value) (w : World) : Prop := ∃ x, AnsO false 0 w v x ∧ AnsIs p x
theorem ToldV.stable (p : Opp) (v : Value) : Stable (ToldV p v) := fun w w' ⟨x, h1, h2⟩ he => ⟨x, h1.ext he, h2⟩
/-- A list of lists of one's own. -/
def LstV (B n : Nat) (L : List Value) (v : Value) (w : World) : Prop := ∃ A c, v = .slice A n c ∧ w.ownsRow B 22 1 (.slice A n c) n L
theorem LstV.stable (B n : Nat) (L : List Value) (v : Value) : Stable (LstV B n L v) := fun w w' ⟨A, c, h1, h2⟩ he => ⟨A, c, h1, own_ext h2 he⟩
theorem LstV.row {B n c : Nat} {A : Option Addr} {L : List Value} {w : World} (h : LstV B n L (.slice A n c) w) : w.ownsRow B 22 1 (.slice A n c) n L := by
  obtain ⟨A', c', e, h2⟩ := h
  injection e with e1 _ e2
  subst e1 e2
  exact h2
theorem LotV.excU {D : Nat → Obj → Prop} {B C : Nat} {w w' : World} {L : List Value} (h : LotV B C w L) (hx : Exc D w w') (hd : ∀ k o, D k o → C ≤ k) : LotV B C w' L := fun u hu => by
  obtain ⟨A, n, c, h1, h2, ⟨xs, h3⟩, h4⟩ := h u hu
  refine ⟨A, n, c, h1, h2, ⟨xs, h3.1, ?_⟩, h4⟩
  rcases h3.2 with h0 | ⟨g, cap, cur, hv, hb, hg, r⟩
  · exact .inl h0
  · refine .inr ⟨g, cap, cur, hv, hb, hx.blk hg (fun e => ?_), r⟩
    have h5 := hd _ _ e
    have h6 := (h4 g (by rw [hv]; rfl)).2
    omega
theorem LotV.join {B B' C C' : Nat} {w : World} {L M : List Value} (h : LotV B C w L) (k : LotV B' C' w M) (hB : B ≤ B') (hC : C ≤ C') : LotV B C' w (L ++ M) := fun u hu => by
  rcases List.mem_append.1 hu with hu | hu
  · obtain ⟨A, n, c, h1, h2, h3, h4⟩ := h u hu
    exact ⟨A, n, c, h1, h2, h3, fun g hg => ⟨(h4 g hg).1, by have := (h4 g hg).2; omega⟩⟩
  · exact (k.low hB) u hu
set_option maxRecDepth 100000 in
set_option maxHeartbeats 8000000 in
theorem spanAnswers_any {A : Option Addr} {c : Nat} {os : List Opn} {w : World} (hx0 : OpsL w A c os) :
    Calls Try.prog 12 #[.slice A os.length c] w fun e w' => e = .returned (.bool true) ∧ Ext w w' := by
  obtain ⟨i1, hi1, hy0, hy1, hy2⟩ := info_parts infoSlB
  obtain ⟨n, hn⟩ : ∃ n, min os.length 300 = n := ⟨_, rfl⟩
  have hx := hx0.take n
  have hln : (os.take n).length = n := by rw [List.length_take]; omega
  have hmn : min (os.length : Int) 300 = (n : Int) := by omega
  have hnl : n ≤ os.length := by omega
  have hn2 : n ≤ 300 := by omega
  have hlc := hx0.le
  have hcap := hx0.cap
  have hnc : n ≤ c := by omega
  obtain ⟨ps, hps⟩ : ∃ ps, os.take n = ps := ⟨_, rfl⟩
  rw [hps] at hx hln
  have HLN := Lib.hid hln
  clear hn hps hln hx0
  go_enter Try.func12, Try.ntmps12
  go_wp2_with fail
  refine (fixed_any (w := w)).mono ?_
  rintro e w0 ⟨rfl, hE0⟩
  go_wp2
  go_loopw [3] (fun ii wr => ∃ i : Nat, i ≤ n ∧ ii = .int .i64 i ∧ Ext w wr) (fun ii _ => n - (intOf ii).toNat)
  case atStart => exact ⟨0, Nat.zero_le _, rfl, hE0⟩
  case round =>
    clear hmn hnl hE0
    obtain ⟨i, hi, rfl, hEr⟩ := hrel
    by_cases hlt : i < n
    · have hki : (i : Int) < (n : Int) := by omega
      obtain ⟨g, of, rfl, hrd⟩ := hx.rd (by rw [HLN.out]; omega)
      obtain ⟨x, hxi⟩ : ∃ x, ps[i]? = some x := ⟨_, List.getElem?_eq_getElem (by rw [HLN.out]; exact hlt)⟩
      have hxx := hx.ok x (List.mem_of_getElem? hxi)
      have hrx := hrd i x hxi
      have r0 : wr.cell? ⟨g, of + i * 10, none⟩ = some (.int .i64 x.kind) := hEr.cell (hrx 0 (by decide))
      have r1 : wr.cell? ⟨g, of + i * 10 + 1, none⟩ = some (.slice x.aA x.a.length x.ac) := hEr.cell (hrx 1 (by decide))
      have r2 : wr.cell? ⟨g, of + i * 10 + 2, none⟩ = some (.slice x.bA x.b.length x.bc) := hEr.cell (hrx 2 (by decide))
      have r3 : wr.cell? ⟨g, of + i * 10 + 3, none⟩ = some (.slice x.r.lA x.r.lo.length x.r.lc) := hEr.cell (hrx 3 (by decide))
      have r4 : wr.cell? ⟨g, of + i * 10 + 4, none⟩ = some (.slice x.r.hA x.r.hi.length x.r.hc) := hEr.cell (hrx 4 (by decide))
      have r5 : wr.cell? ⟨g, of + i * 10 + 5, none⟩ = some (.bool x.r.op) := hEr.cell (hrx 5 (by decide))
      have r6 : wr.cell? ⟨g, of + i * 10 + 6, none⟩ = some (.slice x.s.lA x.s.lo.length x.s.lc) := hEr.cell (hrx 6 (by decide))
      have r7 : wr.cell? ⟨g, of + i * 10 + 7, none⟩ = some (.slice x.s.hA x.s.hi.length x.s.hc) := hEr.cell (hrx 7 (by decide))
      have r8 : wr.cell? ⟨g, of + i * 10 + 8, none⟩ = some (.bool x.s.op) := hEr.cell (hrx 8 (by decide))
      have r9 : wr.cell? ⟨g, of + i * 10 + 9, none⟩ = some (.slice x.lA x.l.length x.lc) := hEr.cell (hrx 9 (by decide))
      have HY := Lib.hid (hxx.cut.ext hEr)
      have hyl : x.cut.l.length = min x.l.length 60 := by simp [Opn.cut, Nat.min_comm]
      obtain ⟨m, hm⟩ : ∃ m, x.cut.l.length = m := ⟨_, rfl⟩
      have hmx : min (x.l.length : Int) 60 = (m : Int) := by omega
      have hml : m ≤ x.l.length := by omega
      have hxc := hxx.le
      have hxc2 := hxx.cap
      have hmc : m ≤ x.lc := by omega
      have HM := Lib.hid hm
      clear hm hyl hrd hrx hxx hxi
      have e1 : x.cut.v = .agg #[.int .i64 x.kind, .slice x.aA x.a.length x.ac, .slice x.bA x.b.length x.bc, .slice x.r.lA x.r.lo.length x.r.lc, .slice x.r.hA x.r.hi.length x.r.hc, .bool x.r.op, .slice x.s.lA x.s.lo.length x.s.lc, .slice x.s.hA x.s.hi.length x.s.hc, .bool x.s.op, .slice x.lA m x.lc] := by
        show Value.agg #[.int .i64 x.kind, .slice x.aA x.a.length x.ac, .slice x.bA x.b.length x.bc, .slice x.r.lA x.r.lo.length x.r.lc, .slice x.r.hA x.r.hi.length x.r.hc, .bool x.r.op, .slice x.s.lA x.s.lo.length x.s.lc, .slice x.s.hA x.s.hi.length x.s.hc, .bool x.s.op, .slice x.lA x.cut.l.length x.lc] = _
        rw [HM.out]
      have HE1 := Lib.hid e1
      have hb4 := heap_alloc_new wr (Obj.cells #[.int .i64 x.kind, .slice x.aA x.a.length x.ac, .slice x.bA x.b.length x.bc, .slice x.r.lA x.r.lo.length x.r.lc, .slice x.r.hA x.r.hi.length x.r.hc, .bool x.r.op, .slice x.s.lA x.s.lo.length x.s.lc, .slice x.s.hA x.s.hi.length x.s.hc, .bool x.s.op, .slice x.lA m x.lc] 47)
      have hEa := ext_alloc wr (Obj.cells #[.int .i64 x.kind, .slice x.aA x.a.length x.ac, .slice x.bA x.b.length x.bc, .slice x.r.lA x.r.lo.length x.r.lc, .slice x.r.hA x.r.hi.length x.r.hc, .bool x.r.op, .slice x.s.lA x.s.lo.length x.s.lc, .slice x.s.hA x.s.hi.length x.s.hc, .bool x.s.op, .slice x.lA m x.lc] 47)
      clear e1
      go_wp2_with fail
      refine calls_cutM (fun W => Ext wr W ∧ W.heap[wr.heap.size]? = some (Obj.cells #[.int .i64 x.kind, .slice x.aA x.a.length x.ac, .slice x.bA x.b.length x.bc, .slice x.r.lA x.r.lo.length x.r.lc, .slice x.r.hA x.r.hi.length x.r.hc, .bool x.r.op, .slice x.s.lA x.s.lo.length x.s.lc, .slice x.s.hA x.s.hi.length x.s.hc, .bool x.s.op, .slice x.lA m x.lc] 47)) ⟨hEa, hb4⟩ ?_
      clear hb4 hEa r0 r1 r2 r3 r4 r5 r6 r7 r8 r9
      rintro W1 ⟨hF, b4⟩
      have H4 := Lib.hid b4
      have hs1 : wr.heap.size < W1.heap.size := (Array.getElem?_eq_some_iff.1 b4).1
      clear b4
      have hc := spared_any (HY.out.ext hF)
      rw [HE1.out] at hc
      refine hc.mono ?_
      clear hc
      rintro e w2 ⟨o, rfl, hop, hS, hE2⟩
      dsimp only [Opn.v]
      have HS := Lib.hid hS
      have HOP := Lib.hid hop
      clear hS hop
      replace H4 := Lib.hid (hE2.blk H4.out)
      have hs2 := hE2.size
      replace hF := hF.trans hE2
      clear hE2
      have zl4 : wr.heap.size < w2.heap.size := (Array.getElem?_eq_some_iff.1 H4.out).1
      have z4_0 := cell_of_row w2 wr.heap.size 0 _ _ _ H4.out
      have z4_1 := cell_of_row w2 wr.heap.size 1 _ _ _ H4.out
      have z4_2 := cell_of_row w2 wr.heap.size 2 _ _ _ H4.out
      have z4_3 := cell_of_row w2 wr.heap.size 3 _ _ _ H4.out
      have z4_4 := cell_of_row w2 wr.heap.size 4 _ _ _ H4.out
      have z4_5 := cell_of_row w2 wr.heap.size 5 _ _ _ H4.out
      have z4_6 := cell_of_row w2 wr.heap.size 6 _ _ _ H4.out
      have z4_7 := cell_of_row w2 wr.heap.size 7 _ _ _ H4.out
      have z4_8 := cell_of_row w2 wr.heap.size 8 _ _ _ H4.out
      have z4_9 := cell_of_row w2 wr.heap.size 9 _ _ _ H4.out
      simp at z4_0 z4_1 z4_2 z4_3 z4_4 z4_5 z4_6 z4_7 z4_8 z4_9
      go_wp2_with fail
      refine calls_cutM (fun W => Ext w2 W ∧ W.heap[w2.heap.size]? = some (Obj.cells #[.int .i64 o.kind, .slice o.aA o.a.length o.ac, .slice o.bA o.b.length o.bc, .slice o.r.lA o.r.lo.length o.r.lc, .slice o.r.hA o.r.hi.length o.r.hc, .bool o.r.op, .slice o.s.lA o.s.lo.length o.s.lc, .slice o.s.hA o.s.hi.length o.s.hc, .bool o.s.op, .slice o.lA o.l.length o.lc] 47)) ⟨ext_alloc _ _, heap_alloc_new _ _⟩ ?_
      clear zl4 z4_0 z4_1 z4_2 z4_3 z4_4 z4_5 z4_6 z4_7 z4_8 z4_9
      rintro W3 ⟨hE3, b5⟩
      replace H4 := Lib.hid (hE3.blk H4.out)
      have H5 := Lib.hid b5
      have hs5 : w2.heap.size < W3.heap.size := (Array.getElem?_eq_some_iff.1 b5).1
      clear b5
      replace HS := Lib.hid (HS.out.ext hE3)
      replace hF := hF.trans hE3
      clear hE3
      have hc := told_any (HY.out.ext hF)
      rw [HE1.out] at hc
      refine hc.mono ?_
      clear hc
      rintro e w4 ⟨v1, x1, rfl, hA1, hp1, hE4⟩
      obtain ⟨kA1, kc1, lA1, lc1, fs1, rfl, hW1⟩ := hA1.open_
      replace H4 := Lib.hid (hE4.blk H4.out)
      replace H5 := Lib.hid (hE4.blk H5.out)
      have HA1 := Lib.hid hW1
      have HP1 := Lib.hid hp1
      have hs1' := hE4.size
      clear hA1 hW1 hp1
      replace HS := Lib.hid (HS.out.ext hE4)
      replace hF := hF.trans hE4
      clear hE4
      have zl5 : w2.heap.size < w4.heap.size := (Array.getElem?_eq_some_iff.1 H5.out).1
      have z5_0 := cell_of_row w4 w2.heap.size 0 _ _ _ H5.out
      have z5_1 := cell_of_row w4 w2.heap.size 1 _ _ _ H5.out
      have z5_2 := cell_of_row w4 w2.heap.size 2 _ _ _ H5.out
      have z5_3 := cell_of_row w4 w2.heap.size 3 _ _ _ H5.out
      have z5_4 := cell_of_row w4 w2.heap.size 4 _ _ _ H5.out
      have z5_5 := cell_of_row w4 w2.heap.size 5 _ _ _ H5.out
      have z5_6 := cell_of_row w4 w2.heap.size 6 _ _ _ H5.out
      have z5_7 := cell_of_row w4 w2.heap.size 7 _ _ _ H5.out
      have z5_8 := cell_of_row w4 w2.heap.size 8 _ _ _ H5.out
      have z5_9 := cell_of_row w4 w2.heap.size 9 _ _ _ H5.out
      simp at z5_0 z5_1 z5_2 z5_3 z5_4 z5_5 z5_6 z5_7 z5_8 z5_9
      go_wp2_with fail
      refine calls_cutM (fun W => Ext w4 W ∧ W.heap[w4.heap.size]? = some (Obj.cells (ansC x1 kA1 kc1 lA1 lc1 fs1) 50)) ⟨ext_alloc _ _, heap_alloc_new _ _⟩ ?_
      clear zl5 z5_0 z5_1 z5_2 z5_3 z5_4 z5_5 z5_6 z5_7 z5_8 z5_9
      rintro W5 ⟨hE5, b6⟩
      replace H4 := Lib.hid (hE5.blk H4.out)
      replace H5 := Lib.hid (hE5.blk H5.out)
      replace HA1 := Lib.hid (HA1.out.ext hE5)
      have H6 := Lib.hid b6
      have hs6 : w4.heap.size < W5.heap.size := (Array.getElem?_eq_some_iff.1 b6).1
      clear b6
      replace HS := Lib.hid (HS.out.ext hE5)
      replace hF := hF.trans hE5
      clear hE5
      have hc := asked_any (HS.out.opr HOP.out (HY.out.ext hF))
      refine hc.mono ?_
      clear hc
      rintro e w6 ⟨v2, x2, rfl, hA2, hp2, hE6⟩
      obtain ⟨kA2, kc2, lA2, lc2, fs2, rfl, hW2⟩ := hA2.open_
      replace H4 := Lib.hid (hE6.blk H4.out)
      replace H5 := Lib.hid (hE6.blk H5.out)
      replace H6 := Lib.hid (hE6.blk H6.out)
      replace HA1 := Lib.hid (HA1.out.ext hE6)
      have HA2 := Lib.hid hW2
      have HP2 := Lib.hid hp2
      have HL2 := Lib.hid hW2.lot
      have hs2' := hE6.size
      clear hA2 hW2 hp2
      replace HS := Lib.hid (HS.out.ext hE6)
      replace hF := hF.trans hE6
      clear hE6
      have zl5 : w2.heap.size < w6.heap.size := (Array.getElem?_eq_some_iff.1 H5.out).1
      have z5_0 := cell_of_row w6 w2.heap.size 0 _ _ _ H5.out
      have z5_1 := cell_of_row w6 w2.heap.size 1 _ _ _ H5.out
      have z5_2 := cell_of_row w6 w2.heap.size 2 _ _ _ H5.out
      have z5_3 := cell_of_row w6 w2.heap.size 3 _ _ _ H5.out
      have z5_4 := cell_of_row w6 w2.heap.size 4 _ _ _ H5.out
      have z5_5 := cell_of_row w6 w2.heap.size 5 _ _ _ H5.out
      have z5_6 := cell_of_row w6 w2.heap.size 6 _ _ _ H5.out
      have z5_7 := cell_of_row w6 w2.heap.size 7 _ _ _ H5.out
      have z5_8 := cell_of_row w6 w2.heap.size 8 _ _ _ H5.out
      have z5_9 := cell_of_row w6 w2.heap.size 9 _ _ _ H5.out
      simp at z5_0 z5_1 z5_2 z5_3 z5_4 z5_5 z5_6 z5_7 z5_8 z5_9
      go_wp2_with fail
      refine calls_cutM (fun W => Ext w6 W ∧ W.heap[w6.heap.size]? = some (Obj.cells (ansC x2 kA2 kc2 lA2 lc2 fs2) 50)) ⟨ext_alloc _ _, heap_alloc_new _ _⟩ ?_
      clear zl5 z5_0 z5_1 z5_2 z5_3 z5_4 z5_5 z5_6 z5_7 z5_8 z5_9
      rintro W7 ⟨hE7, b7⟩
      replace H4 := Lib.hid (hE7.blk H4.out)
      replace H5 := Lib.hid (hE7.blk H5.out)
      replace H6 := Lib.hid (hE7.blk H6.out)
      replace HA1 := Lib.hid (HA1.out.ext hE7)
      replace HA2 := Lib.hid (HA2.out.ext hE7)
      replace HL2 := Lib.hid (HL2.out.ext hE7)
      have H7 := Lib.hid b7
      have hs7 : w6.heap.size < W7.heap.size := (Array.getElem?_eq_some_iff.1 b7).1
      clear b7
      replace HS := Lib.hid (HS.out.ext hE7)
      replace hF := hF.trans hE7
      clear hE7
      have hc := asked_any (HS.out.opr HOP.out (HY.out.ext hF))
      refine hc.mono ?_
      clear hc
      rintro e w8 ⟨v3, x3, rfl, hA3, hp3, hE8⟩
      obtain ⟨kA3, kc3, lA3, lc3, fs3, rfl, hW3⟩ := hA3.open_
      replace H4 := Lib.hid (hE8.blk H4.out)
      replace H5 := Lib.hid (hE8.blk H5.out)
      replace H6 := Lib.hid (hE8.blk H6.out)
      replace H7 := Lib.hid (hE8.blk H7.out)
      replace HA1 := Lib.hid (HA1.out.ext hE8)
      replace HA2 := Lib.hid (HA2.out.ext hE8)
      replace HL2 := Lib.hid (HL2.out.ext hE8)
      have HA3 := Lib.hid hW3
      have HP3 := Lib.hid hp3
      have HL3 := Lib.hid hW3.lot
      have hs3' := hE8.size
      clear hA3 hW3 hp3
      replace HS := Lib.hid (HS.out.ext hE8)
      replace hF := hF.trans hE8
      clear hE8
      obtain rfl : x2 = x1 := (HP2.out : AnsIs o.p x2).uniq (by rw [HOP.out]; exact HP1.out)
      obtain rfl : x3 = x2 := (HP3.out : AnsIs o.p x3).uniq HP2.out
      clear HP1 HP2
      have zl7 : w6.heap.size < w8.heap.size := (Array.getElem?_eq_some_iff.1 H7.out).1
      have z7_0 := cell_of_row w8 w6.heap.size 0 _ _ _ H7.out
      have z7_1 := cell_of_row w8 w6.heap.size 1 _ _ _ H7.out
      have z7_2 := cell_of_row w8 w6.heap.size 2 _ _ _ H7.out
      have z7_3 := cell_of_row w8 w6.heap.size 3 _ _ _ H7.out
      simp at z7_0 z7_1 z7_2 z7_3
      have zl6 : w4.heap.size < w8.heap.size := (Array.getElem?_eq_some_iff.1 H6.out).1
      have z6_0 := cell_of_row w8 w4.heap.size 0 _ _ _ H6.out
      have z6_1 := cell_of_row w8 w4.heap.size 1 _ _ _ H6.out
      have z6_2 := cell_of_row w8 w4.heap.size 2 _ _ _ H6.out
      have z6_3 := cell_of_row w8 w4.heap.size 3 _ _ _ H6.out
      simp at z6_0 z6_1 z6_2 z6_3
      go_wp2_with fail
      refine calls_cutM (fun W => Ext w8 W ∧ W.heap[w8.heap.size]? = some (Obj.cells (ansC x3 kA3 kc3 lA3 lc3 fs3) 50)) ⟨ext_alloc _ _, heap_alloc_new _ _⟩ ?_
      clear zl7 z7_0 z7_1 z7_2 z7_3 zl6 z6_0 z6_1 z6_2 z6_3
      rintro W9 ⟨hE9, b8⟩
      replace H4 := Lib.hid (hE9.blk H4.out)
      replace H5 := Lib.hid (hE9.blk H5.out)
      replace H6 := Lib.hid (hE9.blk H6.out)
      replace H7 := Lib.hid (hE9.blk H7.out)
      replace HA1 := Lib.hid (HA1.out.ext hE9)
      replace HA2 := Lib.hid (HA2.out.ext hE9)
      replace HA3 := Lib.hid (HA3.out.ext hE9)
      replace HL2 := Lib.hid (HL2.out.ext hE9)
      replace HL3 := Lib.hid (HL3.out.ext hE9)
      have H8 := Lib.hid b8
      have hs8 : w8.heap.size < W9.heap.size := (Array.getElem?_eq_some_iff.1 b8).1
      clear b8
      replace HS := Lib.hid (HS.out.ext hE9)
      replace hF := hF.trans hE9
      clear hE9
      refine (same_any HA2.out.ans HA1.out.ans).mono ?_
      rintro e w10 ⟨rfl, hE10⟩
      replace H4 := Lib.hid (hE10.blk H4.out)
      replace H5 := Lib.hid (hE10.blk H5.out)
      replace H6 := Lib.hid (hE10.blk H6.out)
      replace H7 := Lib.hid (hE10.blk H7.out)
      replace H8 := Lib.hid (hE10.blk H8.out)
      replace HA1 := Lib.hid (HA1.out.ext hE10)
      replace HA2 := Lib.hid (HA2.out.ext hE10)
      replace HA3 := Lib.hid (HA3.out.ext hE10)
      replace HL2 := Lib.hid (HL2.out.ext hE10)
      replace HL3 := Lib.hid (HL3.out.ext hE10)
      replace HS := Lib.hid (HS.out.ext hE10)
      replace hF := hF.trans hE10
      clear hE10
      have zl8 : w8.heap.size < w10.heap.size := (Array.getElem?_eq_some_iff.1 H8.out).1
      have z8_0 := cell_of_row w10 w8.heap.size 0 _ _ _ H8.out
      have z8_1 := cell_of_row w10 w8.heap.size 1 _ _ _ H8.out
      have z8_2 := cell_of_row w10 w8.heap.size 2 _ _ _ H8.out
      have z8_3 := cell_of_row w10 w8.heap.size 3 _ _ _ H8.out
      simp at z8_0 z8_1 z8_2 z8_3
      have zl6 : w4.heap.size < w10.heap.size := (Array.getElem?_eq_some_iff.1 H6.out).1
      have z6_0 := cell_of_row w10 w4.heap.size 0 _ _ _ H6.out
      have z6_1 := cell_of_row w10 w4.heap.size 1 _ _ _ H6.out
      have z6_2 := cell_of_row w10 w4.heap.size 2 _ _ _ H6.out
      have z6_3 := cell_of_row w10 w4.heap.size 3 _ _ _ H6.out
      simp at z6_0 z6_1 z6_2 z6_3
      go_wp2_with fail
      clear zl8 z8_0 z8_1 z8_2 z8_3 zl6 z6_0 z6_1 z6_2 z6_3
      refine (same_any HA3.out.ans HA1.out.ans).mono ?_
      rintro e w11 ⟨rfl, hE11⟩
      replace H4 := Lib.hid (hE11.blk H4.out)
      replace H5 := Lib.hid (hE11.blk H5.out)
      replace H6 := Lib.hid (hE11.blk H6.out)
      replace H7 := Lib.hid (hE11.blk H7.out)
      replace H8 := Lib.hid (hE11.blk H8.out)
      replace HA1 := Lib.hid (HA1.out.ext hE11)
      replace HA2 := Lib.hid (HA2.out.ext hE11)
      replace HA3 := Lib.hid (HA3.out.ext hE11)
      replace HL2 := Lib.hid (HL2.out.ext hE11)
      replace HL3 := Lib.hid (HL3.out.ext hE11)
      replace HS := Lib.hid (HS.out.ext hE11)
      replace hF := hF.trans hE11
      clear hE11
      have zl5 : w2.heap.size < w11.heap.size := (Array.getElem?_eq_some_iff.1 H5.out).1
      have z5_0 := cell_of_row w11 w2.heap.size 0 _ _ _ H5.out
      have z5_1 := cell_of_row w11 w2.heap.size 1 _ _ _ H5.out
      have z5_2 := cell_of_row w11 w2.heap.size 2 _ _ _ H5.out
      have z5_3 := cell_of_row w11 w2.heap.size 3 _ _ _ H5.out
      have z5_4 := cell_of_row w11 w2.heap.size 4 _ _ _ H5.out
      have z5_5 := cell_of_row w11 w2.heap.size 5 _ _ _ H5.out
      have z5_6 := cell_of_row w11 w2.heap.size 6 _ _ _ H5.out
      have z5_7 := cell_of_row w11 w2.heap.size 7 _ _ _ H5.out
      have z5_8 := cell_of_row w11 w2.heap.size 8 _ _ _ H5.out
      have z5_9 := cell_of_row w11 w2.heap.size 9 _ _ _ H5.out
      simp at z5_0 z5_1 z5_2 z5_3 z5_4 z5_5 z5_6 z5_7 z5_8 z5_9
      have zl4 : wr.heap.size < w11.heap.size := (Array.getElem?_eq_some_iff.1 H4.out).1
      have z4_0 := cell_of_row w11 wr.heap.size 0 _ _ _ H4.out
      have z4_1 := cell_of_row w11 wr.heap.size 1 _ _ _ H4.out
      have z4_2 := cell_of_row w11 wr.heap.size 2 _ _ _ H4.out
      have z4_3 := cell_of_row w11 wr.heap.size 3 _ _ _ H4.out
      have z4_4 := cell_of_row w11 wr.heap.size 4 _ _ _ H4.out
      have z4_5 := cell_of_row w11 wr.heap.size 5 _ _ _ H4.out
      have z4_6 := cell_of_row w11 wr.heap.size 6 _ _ _ H4.out
      have z4_7 := cell_of_row w11 wr.heap.size 7 _ _ _ H4.out
      have z4_8 := cell_of_row w11 wr.heap.size 8 _ _ _ H4.out
      have z4_9 := cell_of_row w11 wr.heap.size 9 _ _ _ H4.out
      simp at z4_0 z4_1 z4_2 z4_3 z4_4 z4_5 z4_6 z4_7 z4_8 z4_9
      go_wp2_with fail
      clear zl5 z5_0 z5_1 z5_2 z5_3 z5_4 z5_5 z5_6 z5_7 z5_8 z5_9 zl4 z4_0 z4_1 z4_2 z4_3 z4_4 z4_5 z4_6 z4_7 z4_8 z4_9
      have hc := keptq_any HS.out (HY.out.ext hF) HOP.out
      rw [HE1.out] at hc
      refine hc.mono ?_
      clear hc
      rintro e w12 ⟨rfl, hE12⟩
      replace H4 := Lib.hid (hE12.blk H4.out)
      replace H5 := Lib.hid (hE12.blk H5.out)
      replace H6 := Lib.hid (hE12.blk H6.out)
      replace H7 := Lib.hid (hE12.blk H7.out)
      replace H8 := Lib.hid (hE12.blk H8.out)
      replace HA1 := Lib.hid (HA1.out.ext hE12)
      replace HA2 := Lib.hid (HA2.out.ext hE12)
      replace HA3 := Lib.hid (HA3.out.ext hE12)
      replace HL2 := Lib.hid (HL2.out.ext hE12)
      replace HL3 := Lib.hid (HL3.out.ext hE12)
      replace HS := Lib.hid (HS.out.ext hE12)
      replace hF := hF.trans hE12
      clear hE12
      have zl5 : w2.heap.size < w12.heap.size := (Array.getElem?_eq_some_iff.1 H5.out).1
      have z5_0 := cell_of_row w12 w2.heap.size 0 _ _ _ H5.out
      have z5_1 := cell_of_row w12 w2.heap.size 1 _ _ _ H5.out
      have z5_2 := cell_of_row w12 w2.heap.size 2 _ _ _ H5.out
      have z5_3 := cell_of_row w12 w2.heap.size 3 _ _ _ H5.out
      have z5_4 := cell_of_row w12 w2.heap.size 4 _ _ _ H5.out
      have z5_5 := cell_of_row w12 w2.heap.size 5 _ _ _ H5.out
      have z5_6 := cell_of_row w12 w2.heap.size 6 _ _ _ H5.out
      have z5_7 := cell_of_row w12 w2.heap.size 7 _ _ _ H5.out
      have z5_8 := cell_of_row w12 w2.heap.size 8 _ _ _ H5.out
      have z5_9 := cell_of_row w12 w2.heap.size 9 _ _ _ H5.out
      simp at z5_0 z5_1 z5_2 z5_3 z5_4 z5_5 z5_6 z5_7 z5_8 z5_9
      go_wp2_with fail
      have hRo := HS.out.opr HOP.out (HY.out.ext hF)
      have hc := spoil_any HS.out hRo.smalls hRo.n (Nat.le_of_lt zl5)
      clear zl5 z5_0 z5_1 z5_2 z5_3 z5_4 z5_5 z5_6 z5_7 z5_8 z5_9
      refine hc.mono ?_
      clear hc hRo
      rintro e w13 ⟨rfl, ⟨o3, ho3, hR3⟩, hx13⟩
      replace H4 := Lib.hid (hx13.blk H4.out (fun hd => by have h1 := hd.1; have h2 := hd.2.1; omega))
      replace H5 := Lib.hid (hx13.blk H5.out (fun hd => by have h1 := hd.1; have h2 := hd.2.1; omega))
      replace H6 := Lib.hid (hx13.blk H6.out (fun hd => by have h1 := hd.1; have h2 := hd.2.1; omega))
      replace H7 := Lib.hid (hx13.blk H7.out (fun hd => by have h1 := hd.1; have h2 := hd.2.1; omega))
      replace H8 := Lib.hid (hx13.blk H8.out (fun hd => by have h1 := hd.1; have h2 := hd.2.1; omega))
      replace HA1 := Lib.hid (HA1.out.exc hx13 (fun k o hd => by have h1 := hd.1; have h2 := hd.2.1; omega))
      replace HA2 := Lib.hid (HA2.out.exc hx13 (fun k o hd => by have h1 := hd.1; have h2 := hd.2.1; omega))
      replace HA3 := Lib.hid (HA3.out.exc hx13 (fun k o hd => by have h1 := hd.1; have h2 := hd.2.1; omega))
      replace HL2 := Lib.hid (HL2.out.exc hx13 (fun k o hd => by have h1 := hd.1; have h2 := hd.2.1; omega))
      replace HL3 := Lib.hid (HL3.out.exc hx13 (fun k o hd => by have h1 := hd.1; have h2 := hd.2.1; omega))
      have hwr := hEr.size
      have hE13 := hx13.to_ext (hEr.trans hF) (fun k o hd => by have h1 := hd.1; omega)
      have HR3 := Lib.hid hR3
      have HO3 := Lib.hid ho3
      clear hR3 ho3 hx13 hF HS HY HOP
      have zl5 : w2.heap.size < w13.heap.size := (Array.getElem?_eq_some_iff.1 H5.out).1
      have z5_0 := cell_of_row w13 w2.heap.size 0 _ _ _ H5.out
      have z5_1 := cell_of_row w13 w2.heap.size 1 _ _ _ H5.out
      have z5_2 := cell_of_row w13 w2.heap.size 2 _ _ _ H5.out
      have z5_3 := cell_of_row w13 w2.heap.size 3 _ _ _ H5.out
      have z5_4 := cell_of_row w13 w2.heap.size 4 _ _ _ H5.out
      have z5_5 := cell_of_row w13 w2.heap.size 5 _ _ _ H5.out
      have z5_6 := cell_of_row w13 w2.heap.size 6 _ _ _ H5.out
      have z5_7 := cell_of_row w13 w2.heap.size 7 _ _ _ H5.out
      have z5_8 := cell_of_row w13 w2.heap.size 8 _ _ _ H5.out
      have z5_9 := cell_of_row w13 w2.heap.size 9 _ _ _ H5.out
      simp at z5_0 z5_1 z5_2 z5_3 z5_4 z5_5 z5_6 z5_7 z5_8 z5_9
      go_wp2_with fail
      clear zl5 z5_0 z5_1 z5_2 z5_3 z5_4 z5_5 z5_6 z5_7 z5_8 z5_9
      have hc := copied_any HR3.out
      rw [HO3.out] at hc
      refine hc.mono ?_
      clear hc
      rintro e w14 ⟨o4, rfl, hp4, hR4, hE14⟩
      dsimp only [Opn.v]
      replace H4 := Lib.hid (hE14.blk H4.out)
      replace H5 := Lib.hid (hE14.blk H5.out)
      replace H6 := Lib.hid (hE14.blk H6.out)
      replace H7 := Lib.hid (hE14.blk H7.out)
      replace H8 := Lib.hid (hE14.blk H8.out)
      replace HA1 := Lib.hid (HA1.out.ext hE14)
      replace HA2 := Lib.hid (HA2.out.ext hE14)
      replace HA3 := Lib.hid (HA3.out.ext hE14)
      replace HL2 := Lib.hid (HL2.out.ext hE14)
      replace HL3 := Lib.hid (HL3.out.ext hE14)
      have hz8 : w8.heap.size < w14.heap.size := (Array.getElem?_eq_some_iff.1 H8.out).1
      replace HR3 := Lib.hid (HR3.out.ext hE14)
      have HR4 := Lib.hid hR4
      have HP4 := Lib.hid hp4
      have hs14 := hE14.size
      replace hE13 := hE13.trans hE14
      clear hE14 hR4 hp4
      have zl5 : w2.heap.size < w14.heap.size := (Array.getElem?_eq_some_iff.1 H5.out).1
      have z5_0 := cell_of_row w14 w2.heap.size 0 _ _ _ H5.out
      have z5_1 := cell_of_row w14 w2.heap.size 1 _ _ _ H5.out
      have z5_2 := cell_of_row w14 w2.heap.size 2 _ _ _ H5.out
      have z5_3 := cell_of_row w14 w2.heap.size 3 _ _ _ H5.out
      have z5_4 := cell_of_row w14 w2.heap.size 4 _ _ _ H5.out
      have z5_5 := cell_of_row w14 w2.heap.size 5 _ _ _ H5.out
      have z5_6 := cell_of_row w14 w2.heap.size 6 _ _ _ H5.out
      have z5_7 := cell_of_row w14 w2.heap.size 7 _ _ _ H5.out
      have z5_8 := cell_of_row w14 w2.heap.size 8 _ _ _ H5.out
      have z5_9 := cell_of_row w14 w2.heap.size 9 _ _ _ H5.out
      simp at z5_0 z5_1 z5_2 z5_3 z5_4 z5_5 z5_6 z5_7 z5_8 z5_9
      go_wp2_with fail
      refine calls_cutM (fun W => Ext w14 W ∧ W.heap[w14.heap.size]? = some (Obj.cells #[.int .i64 o4.kind, .slice o4.aA o4.a.length o4.ac, .slice o4.bA o4.b.length o4.bc, .slice o4.r.lA o4.r.lo.length o4.r.lc, .slice o4.r.hA o4.r.hi.length o4.r.hc, .bool o4.r.op, .slice o4.s.lA o4.s.lo.length o4.s.lc, .slice o4.s.hA o4.s.hi.length o4.s.hc, .bool o4.s.op, .slice o4.lA o4.l.length o4.lc] 47)) ⟨ext_alloc _ _, heap_alloc_new _ _⟩ ?_
      clear zl5 z5_0 z5_1 z5_2 z5_3 z5_4 z5_5 z5_6 z5_7 z5_8 z5_9
      rintro W15 ⟨hE15, b9⟩
      replace H4 := Lib.hid (hE15.blk H4.out)
      replace H5 := Lib.hid (hE15.blk H5.out)
      replace H6 := Lib.hid (hE15.blk H6.out)
      replace H7 := Lib.hid (hE15.blk H7.out)
      replace H8 := Lib.hid (hE15.blk H8.out)
      replace HA1 := Lib.hid (HA1.out.ext hE15)
      replace HA2 := Lib.hid (HA2.out.ext hE15)
      replace HA3 := Lib.hid (HA3.out.ext hE15)
      replace HL2 := Lib.hid (HL2.out.ext hE15)
      replace HL3 := Lib.hid (HL3.out.ext hE15)
      have H9 := Lib.hid b9
      have hs9 : w14.heap.size < W15.heap.size := (Array.getElem?_eq_some_iff.1 b9).1
      clear b9
      replace HR3 := Lib.hid (HR3.out.ext hE15)
      replace HR4 := Lib.hid (HR4.out.ext hE15)
      replace hE13 := hE13.trans hE15
      clear hE15
      have hc := asked_any HR3.out
      rw [HO3.out] at hc
      refine hc.mono ?_
      clear hc
      rintro e w16 ⟨v5, x5, rfl, hA5, hp5, hE16⟩
      obtain ⟨kA5, kc5, lA5, lc5, fs5, rfl, hW5⟩ := hA5.open_
      replace H4 := Lib.hid (hE16.blk H4.out)
      replace H5 := Lib.hid (hE16.blk H5.out)
      replace H6 := Lib.hid (hE16.blk H6.out)
      replace H7 := Lib.hid (hE16.blk H7.out)
      replace H8 := Lib.hid (hE16.blk H8.out)
      replace H9 := Lib.hid (hE16.blk H9.out)
      replace HA1 := Lib.hid (HA1.out.ext hE16)
      replace HA2 := Lib.hid (HA2.out.ext hE16)
      replace HA3 := Lib.hid (HA3.out.ext hE16)
      replace HL2 := Lib.hid (HL2.out.ext hE16)
      replace HL3 := Lib.hid (HL3.out.ext hE16)
      have HA5 := Lib.hid hW5
      have HP5 := Lib.hid hp5
      have HL5 := Lib.hid hW5.lot
      have hs5' := hE16.size
      clear hA5 hW5 hp5
      replace HR4 := Lib.hid (HR4.out.ext hE16)
      replace hE13 := hE13.trans hE16
      clear hE16 HR3 HO3
      have hEx := ext_alloc w16 (Obj.cells (ansC x5 kA5 kc5 lA5 lc5 fs5) 50)
      have hb10 := heap_alloc_new w16 (Obj.cells (ansC x5 kA5 kc5 lA5 lc5 fs5) 50)
      go_wp2
      refine wp_cut (fun W => Ext w16 W ∧ W.heap[w16.heap.size]? = some (Obj.cells (ansC x5 kA5 kc5 lA5 lc5 fs5) 50)) ⟨hEx, hb10⟩ ?_
      clear hEx hb10
      rintro W17 ⟨hE17, b10⟩
      replace H4 := Lib.hid (hE17.blk H4.out)
      replace H5 := Lib.hid (hE17.blk H5.out)
      replace H6 := Lib.hid (hE17.blk H6.out)
      replace H7 := Lib.hid (hE17.blk H7.out)
      replace H8 := Lib.hid (hE17.blk H8.out)
      replace H9 := Lib.hid (hE17.blk H9.out)
      replace HA1 := Lib.hid (HA1.out.ext hE17)
      replace HA2 := Lib.hid (HA2.out.ext hE17)
      replace HA3 := Lib.hid (HA3.out.ext hE17)
      replace HA5 := Lib.hid (HA5.out.ext hE17)
      replace HL2 := Lib.hid (HL2.out.ext hE17)
      replace HL3 := Lib.hid (HL3.out.ext hE17)
      replace HL5 := Lib.hid (HL5.out.ext hE17)
      have H10 := Lib.hid b10
      have hs10 : w16.heap.size < W17.heap.size := (Array.getElem?_eq_some_iff.1 b10).1
      clear b10
      replace HR4 := Lib.hid (HR4.out.ext hE17)
      replace hE13 := hE13.trans hE17
      clear hE17
      refine wp_region_mild 16 (fun i => match i with
        | 2 => some fun _ => ToldV o4.p
        | 3 => some fun _ v _ => v = .bool true
        | 8 => some fun _ v _ => v = .bool true
        | 14 => some fun _ v _ => v = .bool true
        | _ => none) (by kernel_rfl) (by kernel_rfl) (fun W N hW hN => ?_)
      have e10_0 : ∀ w', Ext W w' → w'.cell? ⟨w16.heap.size, 0, none⟩ = some (.int .i64 x5.n) := fun w' h => cell_of_row _ _ _ _ _ _ ((hW.trans h).blk H10.out)
      have e10_1 : ∀ w', Ext W w' → w'.cell? ⟨w16.heap.size, 1, none⟩ = some (.bool x5.is) := fun w' h => cell_of_row _ _ _ _ _ _ ((hW.trans h).blk H10.out)
      have e10_2 : ∀ w', Ext W w' → w'.cell? ⟨w16.heap.size, 2, none⟩ = some (.slice kA5 x5.k.length kc5) := fun w' h => cell_of_row _ _ _ _ _ _ ((hW.trans h).blk H10.out)
      have e10_3 : ∀ w', Ext W w' → w'.cell? ⟨w16.heap.size, 3, none⟩ = some (.slice lA5 fs5.length lc5) := fun w' h => cell_of_row _ _ _ _ _ _ ((hW.trans h).blk H10.out)
      have e9_0 : ∀ w', Ext W w' → w'.cell? ⟨w14.heap.size, 0, none⟩ = some (.int .i64 o4.kind) := fun w' h => cell_of_row _ _ _ _ _ _ ((hW.trans h).blk H9.out)
      have e9_1 : ∀ w', Ext W w' → w'.cell? ⟨w14.heap.size, 1, none⟩ = some (.slice o4.aA o4.a.length o4.ac) := fun w' h => cell_of_row _ _ _ _ _ _ ((hW.trans h).blk H9.out)
      have e9_2 : ∀ w', Ext W w' → w'.cell? ⟨w14.heap.size, 2, none⟩ = some (.slice o4.bA o4.b.length o4.bc) := fun w' h => cell_of_row _ _ _ _ _ _ ((hW.trans h).blk H9.out)
      have e9_3 : ∀ w', Ext W w' → w'.cell? ⟨w14.heap.size, 3, none⟩ = some (.slice o4.r.lA o4.r.lo.length o4.r.lc) := fun w' h => cell_of_row _ _ _ _ _ _ ((hW.trans h).blk H9.out)
      have e9_4 : ∀ w', Ext W w' → w'.cell? ⟨w14.heap.size, 4, none⟩ = some (.slice o4.r.hA o4.r.hi.length o4.r.hc) := fun w' h => cell_of_row _ _ _ _ _ _ ((hW.trans h).blk H9.out)
      have e9_5 : ∀ w', Ext W w' → w'.cell? ⟨w14.heap.size, 5, none⟩ = some (.bool o4.r.op) := fun w' h => cell_of_row _ _ _ _ _ _ ((hW.trans h).blk H9.out)
      have e9_6 : ∀ w', Ext W w' → w'.cell? ⟨w14.heap.size, 6, none⟩ = some (.slice o4.s.lA o4.s.lo.length o4.s.lc) := fun w' h => cell_of_row _ _ _ _ _ _ ((hW.trans h).blk H9.out)
      have e9_7 : ∀ w', Ext W w' → w'.cell? ⟨w14.heap.size, 7, none⟩ = some (.slice o4.s.hA o4.s.hi.length o4.s.hc) := fun w' h => cell_of_row _ _ _ _ _ _ ((hW.trans h).blk H9.out)
      have e9_8 : ∀ w', Ext W w' → w'.cell? ⟨w14.heap.size, 8, none⟩ = some (.bool o4.s.op) := fun w' h => cell_of_row _ _ _ _ _ _ ((hW.trans h).blk H9.out)
      have e9_9 : ∀ w', Ext W w' → w'.cell? ⟨w14.heap.size, 9, none⟩ = some (.slice o4.lA o4.l.length o4.lc) := fun w' h => cell_of_row _ _ _ _ _ _ ((hW.trans h).blk H9.out)
      have e7_0 : ∀ w', Ext W w' → w'.cell? ⟨w6.heap.size, 0, none⟩ = some (.int .i64 x3.n) := fun w' h => cell_of_row _ _ _ _ _ _ ((hW.trans h).blk H7.out)
      have e7_1 : ∀ w', Ext W w' → w'.cell? ⟨w6.heap.size, 1, none⟩ = some (.bool x3.is) := fun w' h => cell_of_row _ _ _ _ _ _ ((hW.trans h).blk H7.out)
      have e7_2 : ∀ w', Ext W w' → w'.cell? ⟨w6.heap.size, 2, none⟩ = some (.slice kA2 x3.k.length kc2) := fun w' h => cell_of_row _ _ _ _ _ _ ((hW.trans h).blk H7.out)
      have e7_3 : ∀ w', Ext W w' → w'.cell? ⟨w6.heap.size, 3, none⟩ = some (.slice lA2 fs2.length lc2) := fun w' h => cell_of_row _ _ _ _ _ _ ((hW.trans h).blk H7.out)
      have e6_0 : ∀ w', Ext W w' → w'.cell? ⟨w4.heap.size, 0, none⟩ = some (.int .i64 x3.n) := fun w' h => cell_of_row _ _ _ _ _ _ ((hW.trans h).blk H6.out)
      have e6_1 : ∀ w', Ext W w' → w'.cell? ⟨w4.heap.size, 1, none⟩ = some (.bool x3.is) := fun w' h => cell_of_row _ _ _ _ _ _ ((hW.trans h).blk H6.out)
      have e6_2 : ∀ w', Ext W w' → w'.cell? ⟨w4.heap.size, 2, none⟩ = some (.slice kA1 x3.k.length kc1) := fun w' h => cell_of_row _ _ _ _ _ _ ((hW.trans h).blk H6.out)
      have e6_3 : ∀ w', Ext W w' → w'.cell? ⟨w4.heap.size, 3, none⟩ = some (.slice lA1 fs1.length lc1) := fun w' h => cell_of_row _ _ _ _ _ _ ((hW.trans h).blk H6.out)
      have e8_0 : ∀ w', Ext W w' → w'.cell? ⟨w8.heap.size, 0, none⟩ = some (.int .i64 x3.n) := fun w' h => cell_of_row _ _ _ _ _ _ ((hW.trans h).blk H8.out)
      have e8_1 : ∀ w', Ext W w' → w'.cell? ⟨w8.heap.size, 1, none⟩ = some (.bool x3.is) := fun w' h => cell_of_row _ _ _ _ _ _ ((hW.trans h).blk H8.out)
      have e8_2 : ∀ w', Ext W w' → w'.cell? ⟨w8.heap.size, 2, none⟩ = some (.slice kA3 x3.k.length kc3) := fun w' h => cell_of_row _ _ _ _ _ _ ((hW.trans h).blk H8.out)
      have e8_3 : ∀ w', Ext W w' → w'.cell? ⟨w8.heap.size, 3, none⟩ = some (.slice lA3 fs3.length lc3) := fun w' h => cell_of_row _ _ _ _ _ _ ((hW.trans h).blk H8.out)
      simp only [List.take_succ_cons, List.take_zero]
      repeat (first | (apply wpM_one; (case hg => rfl); (case hsp => rfl); (case hv => (intro w' hw'; go_simp; exact rfl)); simp only [Act.put, List.setIfInBounds_toArray, List.set_cons_succ, List.set_cons_zero]; try simp only [wrap_zero]) | (apply wpM_oneG; (case hw => rfl); (case hsp => rfl); (case hv => (intro w' hw'; go_simp; exact rfl)); simp only [Act.put, List.setIfInBounds_toArray, List.set_cons_succ, List.set_cons_zero]; try simp only [wrap_zero]) | (apply wpM_pass; (case hw => rfl); simp only [Act.put, List.setIfInBounds_toArray, List.set_cons_succ, List.set_cons_zero]; try simp only [wrap_zero]))
      refine wpM_newG _ rfl rfl (fun V v => ToldV.stable _ _) (fun V V' h => rfl) (fun w' hw' hK => ?_) (fun v hv => ?_)
      · have HR9 := Lib.hid (HR4.out.ext (hW.trans hw'))
        unfold mildAt; go_simp; rw [mildUpon_enter]
        refine ⟨Below.refl _ _, (told_any HR9.out).mono ?_⟩
        rintro e w9 ⟨v, x, rfl, hA, hp, hE9⟩
        exact ⟨_, rfl, hE9, x, hA.mono (Nat.zero_le _), hp⟩
      obtain ⟨_, _, _, x6, hA6, hp6⟩ := hv
      obtain ⟨kA6, kc6, lA6, lc6, fs6, rfl, _⟩ := hA6.open_
      clear hA6
      simp only [Act.put, List.setIfInBounds_toArray, List.set_cons_succ, List.set_cons_zero]
      repeat (first | (apply wpM_one; (case hg => rfl); (case hsp => rfl); (case hv => (intro w' hw'; go_simp; exact rfl)); simp only [Act.put, List.setIfInBounds_toArray, List.set_cons_succ, List.set_cons_zero]; try simp only [wrap_zero]) | (apply wpM_oneG; (case hw => rfl); (case hsp => rfl); (case hv => (intro w' hw'; go_simp; exact rfl)); simp only [Act.put, List.setIfInBounds_toArray, List.set_cons_succ, List.set_cons_zero]; try simp only [wrap_zero]) | (apply wpM_pass; (case hw => rfl); simp only [Act.put, List.setIfInBounds_toArray, List.set_cons_succ, List.set_cons_zero]; try simp only [wrap_zero]))
      refine wpM_newG _ rfl rfl (fun V v => Stable.pure) (fun V V' h => rfl) (fun w' hw' hK => ?_) (fun v hv => ?_)
      · obtain ⟨y, hAy, hpy⟩ := (show ToldV o4.p (.agg (ansC x6 kA6 kc6 lA6 lc6 fs6)) w' from (hK 2 (by kernel_rfl)).2)
        have HA9 := Lib.hid (HA5.out.ext (hW.trans hw'))
        obtain rfl : x5 = y := (HP5.out : AnsIs o3.p x5).uniq (by rw [← HP4.out]; exact hpy)
        clear hK
        unfold mildAt; go_simp; rw [mildUpon_enter]
        refine ⟨Below.refl _ _, (same_any HA9.out.ans hAy).mono ?_⟩
        rintro e w9 ⟨rfl, hE9⟩
        exact ⟨_, rfl, hE9, rfl⟩
      obtain ⟨_, _, _, rfl⟩ := hv
      simp only [Act.put, List.setIfInBounds_toArray, List.set_cons_succ, List.set_cons_zero]
      repeat (first | (apply wpM_one; (case hg => rfl); (case hsp => rfl); (case hv => (intro w' hw'; go_simp; exact rfl)); simp only [Act.put, List.setIfInBounds_toArray, List.set_cons_succ, List.set_cons_zero]; try simp only [wrap_zero]) | (apply wpM_oneG; (case hw => rfl); (case hsp => rfl); (case hv => (intro w' hw'; go_simp; exact rfl)); simp only [Act.put, List.setIfInBounds_toArray, List.set_cons_succ, List.set_cons_zero]; try simp only [wrap_zero]) | (apply wpM_pass; (case hw => rfl); simp only [Act.put, List.setIfInBounds_toArray, List.set_cons_succ, List.set_cons_zero]; try simp only [wrap_zero]))
      refine wpM_newG _ rfl rfl (fun V v => Stable.pure) (fun V V' h => rfl) (fun w' hw' hK => ?_) (fun v hv => ?_)
      · have HA9 := Lib.hid (HA2.out.ext (hW.trans hw'))
        have HB9 := Lib.hid (HA1.out.ext (hW.trans hw'))
        clear hK
        unfold mildAt; go_simp; rw [mildUpon_enter]
        refine ⟨Below.refl _ _, (same_any HA9.out.ans HB9.out.ans).mono ?_⟩
        rintro e w9 ⟨rfl, hE9⟩
        exact ⟨_, rfl, hE9, rfl⟩
      obtain ⟨_, _, _, rfl⟩ := hv
      simp only [Act.put, List.setIfInBounds_toArray, List.set_cons_succ, List.set_cons_zero]
      repeat (first | (apply wpM_one; (case hg => rfl); (case hsp => rfl); (case hv => (intro w' hw'; go_simp; exact rfl)); simp only [Act.put, List.setIfInBounds_toArray, List.set_cons_succ, List.set_cons_zero]; try simp only [wrap_zero]) | (apply wpM_oneG; (case hw => rfl); (case hsp => rfl); (case hv => (intro w' hw'; go_simp; exact rfl)); simp only [Act.put, List.setIfInBounds_toArray, List.set_cons_succ, List.set_cons_zero]; try simp only [wrap_zero]) | (apply wpM_pass; (case hw => rfl); simp only [Act.put, List.setIfInBounds_toArray, List.set_cons_succ, List.set_cons_zero]; try simp only [wrap_zero]))
      refine wpM_newG _ rfl rfl (fun V v => Stable.pure) (fun V V' h => rfl) (fun w' hw' hK => ?_) (fun v hv => ?_)
      · have HA9 := Lib.hid (HA3.out.ext (hW.trans hw'))
        have HB9 := Lib.hid (HA1.out.ext (hW.trans hw'))
        clear hK
        unfold mildAt; go_simp; rw [mildUpon_enter]
        refine ⟨Below.refl _ _, (same_any HA9.out.ans HB9.out.ans).mono ?_⟩
        rintro e w9 ⟨rfl, hE9⟩
        exact ⟨_, rfl, hE9, rfl⟩
      obtain ⟨_, _, _, rfl⟩ := hv
      simp only [Act.put, List.setIfInBounds_toArray, List.set_cons_succ, List.set_cons_zero]
      repeat (first | (apply wpM_one; (case hg => rfl); (case hsp => rfl); (case hv => (intro w' hw'; go_simp; exact rfl)); simp only [Act.put, List.setIfInBounds_toArray, List.set_cons_succ, List.set_cons_zero]; try simp only [wrap_zero]) | (apply wpM_oneG; (case hw => rfl); (case hsp => rfl); (case hv => (intro w' hw'; go_simp; exact rfl)); simp only [Act.put, List.setIfInBounds_toArray, List.set_cons_succ, List.set_cons_zero]; try simp only [wrap_zero]) | (apply wpM_pass; (case hw => rfl); simp only [Act.put, List.setIfInBounds_toArray, List.set_cons_succ, List.set_cons_zero]; try simp only [wrap_zero]))
      apply wpM_nil
      apply hN
      intro w18 hE18 hK
      replace hE18 := hW.trans hE18
      clear hK hN hW
      clear e10_0 e10_1 e10_2 e10_3 e9_0 e9_1 e9_2 e9_3 e9_4 e9_5 e9_6 e9_7 e9_8 e9_9 e7_0 e7_1 e7_2 e7_3 e6_0 e6_1 e6_2 e6_3 e8_0 e8_1 e8_2 e8_3
      replace H4 := Lib.hid (hE18.blk H4.out)
      replace H5 := Lib.hid (hE18.blk H5.out)
      replace H6 := Lib.hid (hE18.blk H6.out)
      replace H7 := Lib.hid (hE18.blk H7.out)
      replace H8 := Lib.hid (hE18.blk H8.out)
      replace H9 := Lib.hid (hE18.blk H9.out)
      replace H10 := Lib.hid (hE18.blk H10.out)
      replace HA1 := Lib.hid (HA1.out.ext hE18)
      replace HA2 := Lib.hid (HA2.out.ext hE18)
      replace HA3 := Lib.hid (HA3.out.ext hE18)
      replace HA5 := Lib.hid (HA5.out.ext hE18)
      replace HL2 := Lib.hid (HL2.out.ext hE18)
      replace HL3 := Lib.hid (HL3.out.ext hE18)
      replace HL5 := Lib.hid (HL5.out.ext hE18)
      replace hE13 := hE13.trans hE18
      have hs18 := hE18.size
      clear hE18 HR4 HP4 HP5
      simp only [List.drop_succ_cons, List.drop_zero]
      go_wp2
      refine wp_region_mild 4 (fun i => match i with
        | 1 => some fun _ => LstV w18.heap.size (1 + 2 * fs2.length) (ansL x3 kA2 kc2 fs2)
        | 3 => some fun _ => LstV w18.heap.size (1 + 2 * fs3.length) (ansL x3 kA3 kc3 fs3)
        | _ => none) (by kernel_rfl) (by kernel_rfl) (fun W N hW hN => ?_)
      have hl2 := HA2.out.sm.2.2
      have hl3 := HA3.out.sm.2.2
      have hl5 := HA5.out.sm.2.2
      have e7_0 : ∀ w', Ext W w' → w'.cell? ⟨w6.heap.size, 0, none⟩ = some (.int .i64 x3.n) := fun w' h => cell_of_row _ _ _ _ _ _ ((hW.trans h).blk H7.out)
      have e7_1 : ∀ w', Ext W w' → w'.cell? ⟨w6.heap.size, 1, none⟩ = some (.bool x3.is) := fun w' h => cell_of_row _ _ _ _ _ _ ((hW.trans h).blk H7.out)
      have e7_2 : ∀ w', Ext W w' → w'.cell? ⟨w6.heap.size, 2, none⟩ = some (.slice kA2 x3.k.length kc2) := fun w' h => cell_of_row _ _ _ _ _ _ ((hW.trans h).blk H7.out)
      have e7_3 : ∀ w', Ext W w' → w'.cell? ⟨w6.heap.size, 3, none⟩ = some (.slice lA2 fs2.length lc2) := fun w' h => cell_of_row _ _ _ _ _ _ ((hW.trans h).blk H7.out)
      have e8_0 : ∀ w', Ext W w' → w'.cell? ⟨w8.heap.size, 0, none⟩ = some (.int .i64 x3.n) := fun w' h => cell_of_row _ _ _ _ _ _ ((hW.trans h).blk H8.out)
      have e8_1 : ∀ w', Ext W w' → w'.cell? ⟨w8.heap.size, 1, none⟩ = some (.bool x3.is) := fun w' h => cell_of_row _ _ _ _ _ _ ((hW.trans h).blk H8.out)
      have e8_2 : ∀ w', Ext W w' → w'.cell? ⟨w8.heap.size, 2, none⟩ = some (.slice kA3 x3.k.length kc3) := fun w' h => cell_of_row _ _ _ _ _ _ ((hW.trans h).blk H8.out)
      have e8_3 : ∀ w', Ext W w' → w'.cell? ⟨w8.heap.size, 3, none⟩ = some (.slice lA3 fs3.length lc3) := fun w' h => cell_of_row _ _ _ _ _ _ ((hW.trans h).blk H8.out)
      simp only [List.take_succ_cons, List.take_zero]
      repeat (apply wpM_one; (case hg => rfl); (case hsp => rfl); (case hv => (intro w' hw'; go_simp; exact rfl)); simp only [Act.put, List.setIfInBounds_toArray, List.set_cons_succ, List.set_cons_zero])
      refine wpM_new _ rfl rfl (fun V v => LstV.stable _ _ _ _) (fun V V' h => rfl) (fun w' hw' hK => ?_) (fun v hv => ?_)
      · have HA9 := Lib.hid (HA2.out.ext (hW.trans hw'))
        have hsz := (hW.trans hw').size
        clear hK
        unfold mildAt; go_simp; rw [mildUpon_enter]
        refine ⟨Below.refl _ _, (lists_any (lc := lc2) HA9.out.rowR (by omega)).mono ?_⟩
        rintro e w9 ⟨A, c, rfl, ho, hE9⟩
        exact ⟨_, rfl, hE9, A, c, rfl, own_mono ho hsz⟩
      obtain ⟨A7, c7, rfl⟩ : ∃ A c, v = .slice A (1 + 2 * fs2.length) c := by
        obtain ⟨_, _, _, A, c, e, _⟩ := hv
        exact ⟨A, c, e⟩
      clear hv
      simp only [Act.put, List.setIfInBounds_toArray, List.set_cons_succ, List.set_cons_zero]
      repeat (apply wpM_one; (case hg => rfl); (case hsp => rfl); (case hv => (intro w' hw'; go_simp; exact rfl)); simp only [Act.put, List.setIfInBounds_toArray, List.set_cons_succ, List.set_cons_zero])
      refine wpM_new _ rfl rfl (fun V v => LstV.stable _ _ _ _) (fun V V' h => rfl) (fun w' hw' hK => ?_) (fun v hv => ?_)
      · have HA9 := Lib.hid (HA3.out.ext (hW.trans hw'))
        have hsz := (hW.trans hw').size
        clear hK
        unfold mildAt; go_simp; rw [mildUpon_enter]
        refine ⟨Below.refl _ _, (lists_any (lc := lc3) HA9.out.rowR (by omega)).mono ?_⟩
        rintro e w9 ⟨A, c, rfl, ho, hE9⟩
        exact ⟨_, rfl, hE9, A, c, rfl, own_mono ho hsz⟩
      obtain ⟨A8, c8, rfl⟩ : ∃ A c, v = .slice A (1 + 2 * fs3.length) c := by
        obtain ⟨_, _, _, A, c, e, _⟩ := hv
        exact ⟨A, c, e⟩
      clear hv
      simp only [Act.put, List.setIfInBounds_toArray, List.set_cons_succ, List.set_cons_zero]
      repeat (apply wpM_one; (case hg => rfl); (case hsp => rfl); (case hv => (intro w' hw'; go_simp; exact rfl)); simp only [Act.put, List.setIfInBounds_toArray, List.set_cons_succ, List.set_cons_zero])
      apply wpM_nil
      apply hN
      intro w19 hE19 hK
      have R7 := LstV.row (show LstV w18.heap.size (1 + 2 * fs2.length) (ansL x3 kA2 kc2 fs2) (.slice A7 (1 + 2 * fs2.length) c7) w19 from (hK 1).2)
      have R8 := LstV.row (show LstV w18.heap.size (1 + 2 * fs3.length) (ansL x3 kA3 kc3 fs3) (.slice A8 (1 + 2 * fs3.length) c8) w19 from (hK 3).2)
      replace hE19 := hW.trans hE19
      clear hK hN hW
      clear e7_0 e7_1 e7_2 e7_3 e8_0 e8_1 e8_2 e8_3
      have hs19 := hE19.size
      obtain ⟨g8, cur8, hA8, hg8, _, hc8⟩ := row_fit R8 (by omega)
      subst hA8
      have hnews : ∀ j u, (ansL x3 kA3 kc3 fs3)[j]? = some u → w19.cell? ((⟨g8, 0, none⟩ : Addr).add j) = some u := fun j u hj => by
        rw [Addr.add_lit, cell_of_row _ _ _ _ _ _ hg8, Nat.zero_add]
        exact hc8 j u hj
      have hone : ∀ (x : Ansp) (kA : Option Addr) (kc : Nat) (fs : List Fr), ∀ u ∈ ansL x kA kc fs, u.oneCell' = true := fun x kA kc fs u hu => by
        rcases List.mem_cons.1 hu with rfl | hu
        · rfl
        · obtain ⟨f, _, hu⟩ := List.mem_flatMap.1 hu
          simp only [List.mem_cons, List.not_mem_nil, or_false] at hu
          rcases hu with rfl | rfl <;> rfl
      have hlL : ∀ (x : Ansp) (kA : Option Addr) (kc : Nat) (fs : List Fr), (ansL x kA kc fs).length = (1 + 2 * fs.length) * 1 := fun x kA kc fs => by
        have : (fs.flatMap fv).length = 2 * fs.length := by
          induction fs with
          | nil => rfl
          | cons f fs ih => rw [List.flatMap_cons, List.length_append, ih]; simp; omega
        simp [ansL, this]
        omega
      have HN8 := Lib.hid hnews
      have HONE := Lib.hid hone
      have HLL := Lib.hid hlL
      clear hnews hone hlL hc8 hg8
      simp only [List.drop_succ_cons, List.drop_zero]
      refine wpList_append_own _ rfl _ _ 55 rfl w18.heap.size 22 i1 (.slice none 0 0) 1 24 Try.underlying55 hi1 hy0 hy1 hy2 rfl (by decide) _ _ _ rfl R7 ⟨g8, 0, none⟩ (1 + 2 * fs3.length) c8 (ansL x3 kA3 kc3 fs3) rfl (HLL.out _ _ _ _) HN8.out (HONE.out _ _ _ _) (by simp [maxLen]; omega) (by omega) hs19 ?_
      intro v20 w20 hown20 hgrow20 _
      have hx20 : Exc (fun k _ => w18.heap.size ≤ k) w19 w20 := Exc.of_grown hgrow20 (fun g o hg _ => (R7.lt g hg).1)
      have hE20 : Ext w18 w20 := hx20.to_ext hE19 (fun k o hk => hk)
      obtain ⟨n20, hn20⟩ : ∃ q, 1 + 2 * fs2.length + (1 + 2 * fs3.length) = q := ⟨_, rfl⟩
      rw [hn20] at hown20
      obtain ⟨A20, c20, rfl⟩ := slice_of_own hown20
      have hn20b : n20 ≤ 246 := by omega
      clear hx20 hgrow20 R7 R8 HN8 hE19
      replace H4 := Lib.hid (hE20.blk H4.out)
      replace H5 := Lib.hid (hE20.blk H5.out)
      replace H6 := Lib.hid (hE20.blk H6.out)
      replace H7 := Lib.hid (hE20.blk H7.out)
      replace H8 := Lib.hid (hE20.blk H8.out)
      replace H9 := Lib.hid (hE20.blk H9.out)
      replace H10 := Lib.hid (hE20.blk H10.out)
      replace HA1 := Lib.hid (HA1.out.ext hE20)
      replace HA2 := Lib.hid (HA2.out.ext hE20)
      replace HA3 := Lib.hid (HA3.out.ext hE20)
      replace HA5 := Lib.hid (HA5.out.ext hE20)
      replace HL2 := Lib.hid (HL2.out.ext hE20)
      replace HL3 := Lib.hid (HL3.out.ext hE20)
      replace HL5 := Lib.hid (HL5.out.ext hE20)
      have zl10 : w16.heap.size < w20.heap.size := (Array.getElem?_eq_some_iff.1 H10.out).1
      have z10_0 := cell_of_row w20 w16.heap.size 0 _ _ _ H10.out
      have z10_1 := cell_of_row w20 w16.heap.size 1 _ _ _ H10.out
      have z10_2 := cell_of_row w20 w16.heap.size 2 _ _ _ H10.out
      have z10_3 := cell_of_row w20 w16.heap.size 3 _ _ _ H10.out
      simp at z10_0 z10_1 z10_2 z10_3
      go_wp2_with fail
      refine (lists_any (lc := lc5) HA5.out.rowR (by omega)).mono ?_
      rintro e w21 ⟨A21, c21, rfl, ho21, hE21⟩
      clear zl10 z10_0 z10_1 z10_2 z10_3
      obtain ⟨g21, cur21, hA21, hg21, _, hc21⟩ := row_fit ho21 (by omega)
      subst hA21
      have hnews : ∀ j u, (ansL x5 kA5 kc5 fs5)[j]? = some u → w21.cell? ((⟨g21, 0, none⟩ : Addr).add j) = some u := fun j u hj => by
        rw [Addr.add_lit, cell_of_row _ _ _ _ _ _ hg21, Nat.zero_add]
        exact hc21 j u hj
      have HN21 := Lib.hid hnews
      have hrow21 := own_ext hown20 hE21
      have hs21 := hE21.size
      have hs20 := hE20.size
      clear hnews hc21 hg21 ho21
      go_wp2_with (at_builtin; refine wpList_append_own _ rfl _ _ 55 rfl w18.heap.size 22 i1 (.slice none 0 0) 1 24 Try.underlying55 hi1 hy0 hy1 hy2 rfl (by decide) _ _ _ rfl hrow21 ⟨g21, 0, none⟩ (1 + 2 * fs5.length) c21 (ansL x5 kA5 kc5 fs5) rfl (HLL.out _ _ _ _) HN21.out (HONE.out _ _ _ _) (by simp [maxLen]; omega) (by omega) (by omega) ?_; intro v22 w22 hown22 hgrow22 _; obtain ⟨A22, c22, rfl⟩ := slice_of_own hown22)
      have hx22 : Exc (fun k _ => w18.heap.size ≤ k) w21 w22 := Exc.of_grown hgrow22 (fun g o hg _ => (hrow21.lt g hg).1)
      have hE18 : Ext w18 w21 := hE20.trans hE21
      have hE22 : Ext w18 w22 := hx22.to_ext hE18 (fun k o hk => hk)
      have hb : W5.heap.size ≤ W7.heap.size := by omega
      have hc9 : w6.heap.size ≤ w8.heap.size := by omega
      have hb2 : W5.heap.size ≤ W15.heap.size := by omega
      have hc2 : w8.heap.size ≤ w16.heap.size := by omega
      have hlot := ((HL2.out.join HL3.out hb hc9).join HL5.out hb2 hc2)
      have hpw : ((ansL x3 kA2 kc2 fs2 ++ ansL x3 kA3 kc3 fs3) ++ ansL x5 kA5 kc5 fs5).Pairwise NoShare := by
        refine List.pairwise_append.2 ⟨List.pairwise_append.2 ⟨HA2.out.ap rfl, HA3.out.ap rfl, HL2.out.apart HL3.out (by omega)⟩, HA5.out.ap rfl, (HL2.out.join HL3.out hb hc9).apart HL5.out (by omega)⟩
      have hw5 : w.heap.size ≤ W5.heap.size := by omega
      have hrow22 := own_mono hown22 (show W5.heap.size ≤ w18.heap.size by omega)
      have hs22 := hE22.size
      have hlot22 := (hlot.ext hE21).excU hx22 (fun k o hk => by have h1 : w18.heap.size ≤ k := hk; omega)
      have hEw := hE13.trans hE22
      clear hx22 hgrow22 hlot hown22 hrow21
      refine (apart_lot hrow22 (by omega) (by omega) hlot22 hpw (by omega)).mono ?_
      rintro e w23 ⟨rfl, hx23⟩
      have hEf : Ext w w23 := hx23.to_ext hEw (fun k o hk => by have h1 : W5.heap.size ≤ k := hk; omega)
      clear hx23 hrow22 hlot22 hpw
      go_wp2
      go_roundw
      case rel => exact ⟨i + 1, by omega, by go_num, hEf⟩
      case measure => simp [intOf]; omega
    · have hki : ¬ (i : Int) < (n : Int) := by omega
      go_wp2
      go_ret
      exact ⟨rfl, hEr⟩
end Go.Proofs.Ytijlaknfagpglaa
