import Derived.Test.YtakllaigpjbgdaaPiU
/-! PI, part Y: contracts over memory that is written: what an old block holds afterwards is told as values; what was made on the way is gone. -/
set_option linter.unusedVariables false
set_option linter.unusedSimpArgs false
namespace Go.Proofs.PI
open Go.RowKit
section
variable {P : Program} {H : Heap} {base : Nat} {φ : Ph} {w : World}

/-- A value at the end of a call as it is told of behind it: old places stay, new memory is frozen. -/
inductive Melt (m : Nat) (H : Heap) : AV → AV → Prop
  | thaw {a c : AV} (h : Thaw m H a c) : Melt m H a c
  | ptr {b : Nat} (o : Nat) (hb : b < m) : Melt m H (.ptr b o) (.ptr b o)
  | sl {b : Nat} (o n : Nat) (cap : Option Nat) (hb : b < m) : Melt m H (.sl b o n cap) (.sl b o n cap)
  | agg (l l' : List AV) (hl : l.length = l'.length) (h : ∀ (i : Nat) a c, l[i]? = some a → l'[i]? = some c → Melt m H a c) : Melt m H (.agg l) (.agg l')
  | tup (l l' : List AV) (hl : l.length = l'.length) (h : ∀ (i : Nat) a c, l[i]? = some a → l'[i]? = some c → Melt m H a c) : Melt m H (.tup l) (.tup l')
theorem Melt.one {m : Nat} {a c : AV} (h : Melt m H a c) (ha : a.one = true) : c.one = true := by
  cases h with
  | thaw h => exact h.one ha
  | ptr => rfl
  | sl => rfl
  | agg => cases ha
  | tup => cases ha
theorem Melt.atom {m : Nat} {a : AV} (h : a.flat = true) : Melt m H a a := .thaw (.atom a h)
theorem Melt.row {m : Nat} : ∀ {l l' : List AV}, All2 (Melt m H) l l' → l.length = l'.length ∧ ∀ (i : Nat) a c, l[i]? = some a → l'[i]? = some c → Melt m H a c
  | [], [], _ => ⟨rfl, fun i a c h => by simp at h⟩
  | a :: l, b :: l', h => by
    obtain ⟨h1, h2⟩ := Melt.row h.2
    refine ⟨by simp [h1], fun i x y hx hy => ?_⟩
    cases i with
    | zero => simp at hx hy; subst hx; subst hy; exact h.1
    | succ i => exact h2 i x y (by simpa using hx) (by simpa using hy)
theorem Melt.agg_row {m : Nat} {l l' : List AV} (h : All2 (Melt m H) l l') : Melt m H (.agg l) (.agg l') := .agg l l' (Melt.row h).1 (Melt.row h).2
theorem Melt.tup_row {m : Nat} {l l' : List AV} (h : All2 (Melt m H) l l') : Melt m H (.tup l) (.tup l') := .tup l l' (Melt.row h).1 (Melt.row h).2
theorem Melt.rv {m : Nat} (hR : Rel base φ H w) {a c : AV} (h : Melt m H a c) : ∀ {v : Value}, RV φ a v → ∀ χ : Ph, (∀ b, b < m → χ b = φ b) → χ.fz = fzOf φ m H w → RV χ c v := by
  induction h with
  | thaw h => intro v hv χ hb hz; exact h.rv hR hv χ hz
  | ptr o hb' => intro v hv χ hb hz; cases hv; rename_i L hL; exact .ptr _ o L (by rw [hb _ hb']; exact hL)
  | sl o n cap hb' => intro v hv χ hb hz; cases hv; rename_i L c' hL hc; exact .sl _ o n cap L c' (by rw [hb _ hb']; exact hL) hc
  | agg l l' hl h ih =>
    intro v hv χ hb hz
    obtain ⟨us, rfl, hs⟩ := RV.agg_iff.1 hv
    refine .agg l' us (by rw [← hl]; have := hs.1; simpa using this) fun i c u hc hu => ?_
    have hi : i < l.length := by rw [hl]; exact (List.getElem?_eq_some_iff.1 hc).1
    exact ih i l[i] c (List.getElem?_eq_getElem hi) hc (hs.2 i _ u (List.getElem?_eq_getElem hi) (by simpa using hu)) χ hb hz
  | tup l l' hl h ih =>
    intro v hv χ hb hz
    obtain ⟨us, rfl, hs⟩ := RV.tup_iff.1 hv
    refine .tup l' us (by rw [← hl]; have := hs.1; simpa using this) fun i c u hc hu => ?_
    have hi : i < l.length := by rw [hl]; exact (List.getElem?_eq_some_iff.1 hc).1
    exact ih i l[i] c (List.getElem?_eq_getElem hi) hc (hs.2 i _ u (List.getElem?_eq_getElem hi) (by simpa using hu)) χ hb hz

/-- What became of an old block: it is as it was, or its cells are told of. -/
def MeltB (m : Nat) (H H' G : Heap) (b : Nat) : Prop :=
  (H'[b]? = H[b]? ∧ G[b]? = H[b]?) ∨ ∀ C, G[b]? = some C → ∃ B, H'[b]? = some B ∧ B.st = C.st ∧ B.esz = C.esz ∧ B.cells.length = C.cells.length ∧ ∀ (i : Nat) a c, B.cells[i]? = some a → C.cells[i]? = some c → Melt m H' a c

theorem WC_melt {f : FuncId} {args : List AV} {Q : AV → Heap → Prop}
    (h : WC P f args H fun r H' => ∃ c G, Melt H.length H' r c ∧ G.length = H.length ∧ (∀ b, b < H.length → MeltB H.length H H' G b) ∧ Q c G) : WC P f args H Q := by
  refine ⟨h.1, fun base φ w vs hR hv => (h.2 base φ w vs hR hv).mono ?_⟩
  rintro e w' ⟨v, r, H', ψ, rfl, k1, k2, k3, c, G, ht, hG, hk, hq⟩
  have hloc : ∀ b L, (⟨fun b => if b < H.length then ψ b else none, fzOf ψ H.length H' w'⟩ : Ph) b = some L → b < H.length ∧ ψ b = some L := fun b L hb => by
    simp only at hb
    split at hb
    · rename_i h; exact ⟨h, hb⟩
    · cases hb
  have hsame : ∀ b, b < H.length → (⟨fun b => if b < H.length then ψ b else none, fzOf ψ H.length H' w'⟩ : Ph) b = ψ b := fun b hb => by simp only; rw [if_pos hb]
  have hcut : ∀ (b : Nat) (L : Loc), φ b = some L → (⟨fun b => if b < H.length then ψ b else none, fzOf ψ H.length H' w'⟩ : Ph) b = ψ b := fun b L hb => hsame b (hR.dom b L hb)
  have hst : ∀ b C, b < H.length → G[b]? = some C → ∃ B, H'[b]? = some B ∧ B.st = C.st := fun b C hb hC => by
    rcases hk b hb with ⟨h1, h2⟩ | h
    · exact ⟨C, by rw [h1, ← h2]; exact hC, rfl⟩
    · obtain ⟨B, h1, h2, _⟩ := h C hC; exact ⟨B, h1, h2⟩
  refine ⟨v, c, G, ⟨fun b => if b < H.length then ψ b else none, fzOf ψ H.length H' w'⟩, rfl, ht.rv k2 k1 _ hsame rfl, ?_, ?_, hq⟩
  · refine ⟨fun b C L hC hL => ?_, fun b c B C L M hB hC h1 h2 hL hM hr => ?_, fun b L hL => by rw [hG]; exact (hloc b L hL).1, k2.size, fzOf_ok k2, fun r z b C L hz hC ho hL => ?_⟩
    · obtain ⟨hb, hL'⟩ := hloc b L hL
      have hφ : φ b = some L := by rw [← k3.keep b hb]; exact hL'
      rcases hk b hb with ⟨h1, h2⟩ | h
      · have hB : H[b]? = some C := by rw [← h2]; exact hC
        have r0 := hR.blk b C L hB hφ
        have r1 := k2.blk b C L (by rw [h1]; exact hB) hL'
        unfold BlkRel at r0 r1 ⊢
        cases hst : C.st <;> rw [hst] at r0 r1 <;> simp only at r0 r1 ⊢
        · refine ⟨r1.1.imp id fun ⟨he, z, hz⟩ => ⟨he, z, fzOf_sub k2 _ z hz⟩, r1.2.1, fun i a ha => ?_⟩
          obtain ⟨_, _, _, h0⟩ := r0.2.2 i a ha
          obtain ⟨g1, v, g2, g3⟩ := r1.2.2 i a ha
          exact ⟨g1, v, g2, g3.cut h0 hcut (fzOf_sub k2)⟩
        rotate_left 2
        · exact r1
        all_goals
          obtain ⟨_, _, _, _, _, _, _, _, _, _, r0⟩ := r0
          obtain ⟨g1, g2, g3, cc, e, fz, g4, g5, g6, g7, g8⟩ := r1
          refine ⟨g1, g2, g3, cc, e, fz, g4, g5, g6, g7, fun i a ha => ?_⟩
          obtain ⟨_, _, _, h0⟩ := r0 i a ha
          obtain ⟨j1, v, j2, j3⟩ := g8 i a ha
          exact ⟨j1, v, j2, j3.cut h0 hcut (fzOf_sub k2)⟩
      · obtain ⟨B, hB, e1, e2, e3, e4⟩ := h C hC
        have r1 := k2.blk b B L hB hL'
        unfold BlkRel at r1 ⊢
        rw [e1] at r1
        have hcell : ∀ (i : Nat) c, C.cells[i]? = some c → ∃ a, B.cells[i]? = some a ∧ Melt H.length H' a c := fun i c hc => by
          have hi : i < B.cells.length := by rw [e3]; exact (List.getElem?_eq_some_iff.1 hc).1
          exact ⟨_, List.getElem?_eq_getElem hi, e4 i _ c (List.getElem?_eq_getElem hi) hc⟩
        cases hst : C.st <;> rw [hst] at r1 <;> simp only at r1 ⊢
        · refine ⟨r1.1.imp (fun h => h) fun ⟨he, z, hz⟩ => ⟨by rw [← e2]; exact he, z, fzOf_sub k2 _ z hz⟩, r1.2.1, fun i c hc => ?_⟩
          obtain ⟨a, ha, hm⟩ := hcell i c hc
          obtain ⟨g1, v, g2, g3⟩ := r1.2.2 i a ha
          exact ⟨hm.one g1, v, g2, hm.rv k2 g3 _ hsame rfl⟩
        rotate_left 2
        · obtain ⟨g1, es, clk, g2, g3, g4⟩ := r1
          refine ⟨g1, es, clk, g2, g3.trans e3, fun i c hc => ?_⟩
          obtain ⟨a, ha, hm⟩ := hcell i c hc
          obtain ⟨s, born, rfl, hs⟩ := g4 i a ha
          refine ⟨s, born, ?_, hs⟩
          cases hm with
          | thaw h => cases h; rfl
        all_goals
          obtain ⟨g1, g2, g3, cc, e, fz, g4, g5, g6, g7, g8⟩ := r1
          refine ⟨g1, g2, by rw [← e2]; exact g3, cc, e, fz, g4, g5, by rw [← e3]; exact g6, g7, fun i c hc => ?_⟩
          obtain ⟨a, ha, hm⟩ := hcell i c hc
          obtain ⟨j1, v, j2, j3⟩ := g8 i a ha
          exact ⟨hm.one j1, v, j2, hm.rv k2 j3 _ hsame rfl⟩
    · obtain ⟨hb, hL'⟩ := hloc b L hL
      obtain ⟨hc, hM'⟩ := hloc c M hM
      obtain ⟨B', q1, q2⟩ := hst b B hb hB
      obtain ⟨C', q3, q4⟩ := hst c C hc hC
      exact k2.inj b c B' C' L M q1 q3 (by rw [q2]; exact h1) (by rw [q4]; exact h2) hL' hM' hr
    · obtain ⟨hb, hL'⟩ := hloc b L hL
      obtain ⟨B, hB', hBs⟩ := hst b C hb hC
      intro heq
      subst heq
      simp only [fzOf] at hz
      split at hz
      · rename_i hex
        obtain ⟨b', B', L', q1, q2, q3, q4, q5⟩ := hex
        have := k2.inj b' b B' B L' L q2 hB' q3 (by rw [hBs]; exact ho) q4 hL' q5
        omega
      · exact k2.fzSep _ z b B L hz hB' (by rw [hBs]; exact ho) hL' rfl
  · exact ⟨fun b hb => by simp only; rw [if_pos hb]; exact k3.keep b hb, by rw [hG]; exact Nat.le_refl _, k3.below, fun r z hz => fzOf_sub k2 r z (k3.fz r z hz), fun r z hz => (fzOf_new k2 r z hz).elim (k3.fzn r z) .inr⟩
/-- One block is written. -/
theorem WC_melt1 {f : FuncId} {args : List AV} {p : Nat} (hp : p < H.length) {Q : AV → Blk → Prop}
    (h : WC P f args H fun r H' => ∃ c C B, Melt H.length H' r c ∧ Keep (some p) H H' ∧ H'[p]? = some B ∧ B.st = C.st ∧ B.esz = C.esz ∧ All2 (Melt H.length H') B.cells C.cells ∧ Q c C) :
    WC P f args H fun r H' => ∃ C, Q r C ∧ H' = List.set H p C := by
  refine WC_melt (h.mono ?_)
  rintro r H' ⟨c, C, B, h1, h2, h3, h4, h5, h6, h7⟩
  refine ⟨c, List.set H p C, h1, by simp, fun b hb => ?_, C, h7, rfl⟩
  by_cases e : p = b
  · subst e
    refine .inr fun D hD => ?_
    rw [List.getElem?_set_self hp] at hD
    simp only [Option.some.injEq] at hD; subst hD
    exact ⟨B, h3, h4, h5, (Melt.row h6).1, (Melt.row h6).2⟩
  · exact .inl ⟨h2.at_ b hb (by simpa using e), List.getElem?_set_ne e⟩
/-- One block is written; all that is answered and left is known. -/
theorem WC_put {f : FuncId} {args : List AV} {val : AV} {C : Blk} {p : Nat} (hp : p < H.length)
    (h : ∀ K : AV → Heap → Prop, (∀ r H' B, Melt H.length H' r val → Keep (some p) H H' → H'[p]? = some B → B.st = C.st → B.esz = C.esz → All2 (Melt H.length H') B.cells C.cells → K r H') → WC P f args H K) :
    WC P f args H fun r H' => r = val ∧ H' = List.set H p C :=
  (WC_melt1 (Q := fun r D => r = val ∧ D = C) hp (WC_of_K fun K hK => h K fun r H' B h1 h2 h3 h4 h5 h6 => hK r H' ⟨val, C, B, h1, h2, h3, h4, h5, h6, rfl, rfl⟩)).mono
    fun r H' ⟨D, ⟨h1, h2⟩, h3⟩ => ⟨h1, by rw [h3, h2]⟩

/-! ### Own memory is given to a call as a value -/
/-- The value c instead of a: where a has a slice of block b, c has its cells. -/
inductive GiveR (B : Blk) (b : Nat) : AV → AV → Prop
  | same (a : AV) : GiveR B b a a
  | sl (o n : Nat) (cap : Option Nat) (cs : List AV) (hl : o + cs.length ≤ B.cells.length) (hc : ∀ (i : Nat) c, cs[i]? = some c → B.cells[o + i]? = some c ∧ c.flat = true) : GiveR B b (.sl b o n cap) (.lst n cs)
  | agg (l l' : List AV) (hl : l.length = l'.length) (h : ∀ (i : Nat) a c, l[i]? = some a → l'[i]? = some c → GiveR B b a c) : GiveR B b (.agg l) (.agg l')
theorem GiveR.whole {b n : Nat} {cap : Option Nat} {cs : List AV} {esz : Nat} {st : St} (h : ∀ a ∈ cs, a.flat = true) : GiveR ⟨cs, esz, st⟩ b (.sl b 0 n cap) (.lst n cs) :=
  .sl 0 n cap cs (by simp) fun i c hc => ⟨by simpa using hc, h c (List.mem_of_getElem? hc)⟩
theorem GiveR.row {B : Blk} {b : Nat} : ∀ {l l' : List AV}, All2 (GiveR B b) l l' → l.length = l'.length ∧ ∀ (i : Nat) a c, l[i]? = some a → l'[i]? = some c → GiveR B b a c
  | [], [], _ => ⟨rfl, fun i a c h => by simp at h⟩
  | a :: l, b :: l', h => by
    obtain ⟨h1, h2⟩ := GiveR.row h.2
    refine ⟨by simp [h1], fun i x y hx hy => ?_⟩
    cases i with
    | zero => simp at hx hy; subst hx; subst hy; exact h.1
    | succ i => exact h2 i x y (by simpa using hx) (by simpa using hy)
theorem GiveR.agg_row {B : Blk} {b : Nat} {l l' : List AV} (h : All2 (GiveR B b) l l') : GiveR B b (.agg l) (.agg l') := .agg l l' (GiveR.row h).1 (GiveR.row h).2
theorem RV.flat_bare {a : AV} {v : Value} (h : RV φ a v) (hf : a.flat = true) : ∀ {ψ : Ph}, (∀ r z, φ.fz r = some z → ψ.fz r = some z) → RV ψ a v := by
  intro ψ hz
  cases h with
  | int => exact .int _ _
  | bool => exact .bool _
  | str => exact .str _
  | nilp => exact .nilp
  | nils => exact .nils
  | emp a c => exact .emp _ _
  | nilf => exact .nilf
  | lst n cs r o c z h hc hl h1 hx => exact .lst n cs r o c z (hz r z h) hc hl h1 fun i a v ha hv => (hx i a v ha hv).mono (bare_sub hz)
  | lst0n => exact .lst0n
  | lst0e => exact .lst0e _ _
  | cptr cs r o z h hl h1 hx => exact .cptr cs r o z (hz r z h) hl h1 fun i a v ha hv => (hx i a v ha hv).mono (bare_sub hz)
  | nul => exact .nul _
  | _ => cases hf
def AV.flatV : AV → Bool
  | .agg l => l.all AV.flat
  | a => a.flat
theorem RV.flatV_bare {a : AV} {v : Value} (h : RV φ a v) (hf : a.flatV = true) {ψ : Ph} (hz : ∀ r z, φ.fz r = some z → ψ.fz r = some z) : RV ψ a v := by
  cases a with
  | agg l =>
    obtain ⟨vs, rfl, hs⟩ := RV.agg_iff.1 h
    exact RV.agg_iff.2 ⟨vs, rfl, hs.1, fun i a v ha hv => (hs.2 i a v ha hv).flat_bare (List.all_eq_true.1 hf a (List.mem_of_getElem? ha)) hz⟩
  | _ => exact h.flat_bare hf hz
/-- The row of block b is frozen. -/
def fzAdd (φ : Ph) (r : Nat) (z : List Value) : Ph := ⟨φ.loc, fun k => if k = r then some z else φ.fz k⟩
theorem WC_give {f : FuncId} {args args' : List AV} {b : Nat} {B : Blk} {K : AV → Heap → Prop} (hB : H[b]? = some B) (ho : B.st.own = true) (ha : All2 (GiveR B b) args args')
    (h : WC P f args' (List.set H b ⟨B.cells, B.esz, .dead⟩) K) : WC P f args H K := by
  refine ⟨h.1, fun base φ w vs hR hv => ?_⟩
  have hbl : b < H.length := (List.getElem?_eq_some_iff.1 hB).1
  cases hL : φ b with
  | none =>
    have hrv : ∀ {a c : AV}, GiveR B b a c → ∀ v, RV φ a v → RV φ c v := by
      intro a c h
      induction h with
      | same a => exact fun v h => h
      | sl o n cap cs hl hc => intro v hv; cases hv; rename_i L c hL' _; rw [hL] at hL'; cases hL'
      | agg l l' hl h ih =>
        intro v hv
        obtain ⟨us, rfl, hs⟩ := RV.agg_iff.1 hv
        refine .agg l' us (by rw [← hl]; have := hs.1; simpa using this) fun i c u hc hu => ?_
        have hi : i < l.length := by rw [hl]; exact (List.getElem?_eq_some_iff.1 hc).1
        exact ih i l[i] c (List.getElem?_eq_getElem hi) hc _ (hs.2 i _ u (List.getElem?_eq_getElem hi) (by simpa using hu))
    have hr := GiveR.row ha
    have hv' : RVs φ args' vs := ⟨by rw [← hr.1]; exact hv.1, fun i c v hc hvi => by
      have hi : i < args.length := by rw [hr.1]; exact (List.getElem?_eq_some_iff.1 hc).1
      exact hrv (hr.2 i args[i] c (List.getElem?_eq_getElem hi) hc) v (hv.2 i _ v (List.getElem?_eq_getElem hi) hvi)⟩
    refine (h.2 base φ w vs (hR.kill b _ rfl) hv').mono ?_
    rintro e w' ⟨v, r, H', ψ, rfl, k1, k2, k3, hq⟩
    exact ⟨v, r, H', ψ, rfl, k1, k2, ⟨fun c hc => k3.keep c (by simpa using hc), by have := k3.len; simpa using this, k3.below, k3.fz, k3.fzn⟩, hq⟩
  | some L =>
    have hrel := (BlkRel.own_iff ho).1 (hR.blk b B L hB hL)
    obtain ⟨g1, g2, g3, cc, e, fz, g4, g5, g6, g7, g8, g9⟩ := hrel
    have hno : φ.fz L.r = none := by
      cases hz : φ.fz L.r with
      | none => rfl
      | some z => exact absurd rfl (hR.fzSep L.r z b B L hz hB ho hL)
    have hsub : ∀ r z, φ.fz r = some z → (fzAdd φ L.r cc.toList).fz r = some z := fun r z hz => by
      simp only [fzAdd]
      by_cases e : r = L.r
      · rw [e, hno] at hz; cases hz
      · rw [if_neg e]; exact hz
    have hle : φ.le (fzAdd φ L.r cc.toList) := ⟨fun _ _ h => h, hsub⟩
    have hrv : ∀ {a c : AV}, GiveR B b a c → ∀ v, RV φ a v → RV (fzAdd φ L.r cc.toList) c v := by
      intro a c h
      induction h with
      | same a => exact fun v h => h.mono hle
      | sl o n cap cs hl hc =>
        intro v hv
        cases hv
        rename_i L' c hL' hcap
        rw [hL] at hL'; cases hL'
        refine .lst n cs L.r (L.o + o) c cc.toList (by simp [fzAdd]) ⟨hcap.1, hcap.2.1⟩ (by simp; omega) (fun a ha => ?_) fun i a v hai hvi => ?_
        · obtain ⟨i, hi, rfl⟩ := List.getElem_of_mem ha
          exact AV.flat_one (hc i _ (List.getElem?_eq_getElem hi)).2
        · obtain ⟨j1, j2⟩ := hc i a hai
          obtain ⟨_, u, q1, q2⟩ := g9 (o + i) a j1
          have : cc[L.o + (o + i)]? = some v := by rw [Array.getElem?_toList] at hvi; rw [← Nat.add_assoc]; exact hvi
          rw [this] at q1; cases q1
          exact q2.flat_bare j2 hsub
      | agg l l' hl h ih =>
        intro v hv
        obtain ⟨us, rfl, hs⟩ := RV.agg_iff.1 hv
        refine .agg l' us (by rw [← hl]; have := hs.1; simpa using this) fun i c u hc hu => ?_
        have hi : i < l.length := by rw [hl]; exact (List.getElem?_eq_some_iff.1 hc).1
        exact ih i l[i] c (List.getElem?_eq_getElem hi) hc _ (hs.2 i _ u (List.getElem?_eq_getElem hi) (by simpa using hu))
    have hr := GiveR.row ha
    have hv' : RVs (fzAdd φ L.r cc.toList) args' vs := ⟨by rw [← hr.1]; exact hv.1, fun i c v hc hvi => by
      have hi : i < args.length := by rw [hr.1]; exact (List.getElem?_eq_some_iff.1 hc).1
      exact hrv (hr.2 i args[i] c (List.getElem?_eq_getElem hi) hc) v (hv.2 i _ v (List.getElem?_eq_getElem hi) hvi)⟩
    have hget : ∀ c C, (List.set H b ⟨B.cells, B.esz, .dead⟩ : Heap)[c]? = some C → C.st.own = true → c ≠ b ∧ H[c]? = some C := fun c C hC hst => by
      by_cases e : b = c
      · subst e
        rw [List.getElem?_set_self hbl] at hC
        simp only [Option.some.injEq] at hC; subst hC; cases hst
      · rw [List.getElem?_set_ne e] at hC; exact ⟨fun h => e h.symm, hC⟩
    have hR' : Rel base (fzAdd φ L.r cc.toList) (List.set H b ⟨B.cells, B.esz, .dead⟩) w := by
      refine ⟨fun c C M hC hM => ?_, fun c d C D M N hC hD h1 h2 hM hN hr => ?_, fun c M hM => by rw [List.length_set]; exact hR.dom c M hM, hR.size, fun r z hz => ?_, fun r z c C M hz hC ho' hM => ?_⟩
      · by_cases e : b = c
        · subst e
          rw [List.getElem?_set_self hbl] at hC
          simp only [Option.some.injEq] at hC; subst hC
          trivial
        · rw [List.getElem?_set_ne e] at hC
          exact (hR.blk c C M hC hM).mono hle fun _ _ => rfl
      · exact hR.inj c d C D M N (hget c C hC h1).2 (hget d D hD h2).2 h1 h2 hM hN hr
      · simp only [fzAdd] at hz
        split at hz
        · rename_i e; subst e
          simp only [Option.some.injEq] at hz; subst hz
          refine ⟨(Array.getElem?_eq_some_iff.1 g4).1, fun i u hu => ?_⟩
          simp only [World.cell?, g4]
          simpa using hu
        · exact hR.fzOk r z hz
      · obtain ⟨q1, q2⟩ := hget c C hC ho'
        simp only [fzAdd] at hz
        split at hz
        · rename_i e; subst e
          intro heq
          exact q1 (hR.inj c b C B M L q2 hB ho' ho hM hL heq)
        · exact hR.fzSep r z c C M hz q2 ho' hM
    refine (h.2 base _ w vs hR' hv').mono ?_
    rintro e w' ⟨v, r, H', ψ, rfl, k1, k2, k3, hq⟩
    refine ⟨v, r, H', ψ, rfl, k1, k2, ⟨fun c hc => k3.keep c (by simpa using hc), by have := k3.len; simpa using this, k3.below, fun r z hz => k3.fz r z (hsub r z hz), fun r z hz => ?_⟩, hq⟩
    rcases k3.fzn r z hz with h | h
    · simp only [fzAdd] at h
      split at h
      · rename_i e; subst e; exact .inr g2
      · exact .inl h
    · exact .inr h
/-- What asks and answers values in no memory does so in any memory. -/
theorem WC_up {f : FuncId} {args : List AV} {val : AV} (ha : args.all AV.flatV = true) (h : WC P f args [] fun r H' => r = val ∧ H' = []) (H : Heap) : WC P f args H fun r H' => r = val ∧ H' = H := by
  refine ⟨h.1, fun base φ w vs hR hv => ?_⟩
  have h0 : Rel w.heap.size ⟨fun _ => none, φ.fz⟩ [] w :=
    ⟨fun b B L h => (by simp at h), fun b c B C L M h => (by simp at h), fun b L h => (by cases h), Nat.le_refl _, hR.fzOk, fun r z b B L hz h => (by simp at h)⟩
  refine (h.2 w.heap.size ⟨fun _ => none, φ.fz⟩ w vs h0 ⟨hv.1, fun i a v hi hvi => ?_⟩).mono ?_
  · exact (hv.2 i a v hi hvi).flatV_bare (List.all_eq_true.1 ha a (List.mem_of_getElem? hi)) fun _ _ h => h
  · rintro e w' ⟨v, r, H', ψ, rfl, k1, k2, k3, rfl, hHn⟩
    subst hHn
    have hno : ∀ b, ψ b = none := fun b => by
      cases hb : ψ b with
      | none => rfl
      | some L => have := k2.dom b L hb; simp at this
    have hb : Below w.heap.size w w' := k3.below
    have hsz := hb.size
    have hrow : ∀ k, k < w.heap.size → w'.heap[k]? = w.heap[k]? := fun k hk => hb.block k hk
    have hg := hR.grow hrow hsz
    have hle : φ.le ⟨φ.loc, ψ.fz⟩ := ⟨fun _ _ h => h, k3.fz⟩
    have hle2 : ψ.le ⟨φ.loc, ψ.fz⟩ := ⟨fun b L h => (by rw [hno b] at h; cases h), fun _ _ h => h⟩
    refine ⟨v, r, H, ⟨φ.loc, ψ.fz⟩, rfl, RV.mono hle2 k1, ?_, ⟨fun _ _ => rfl, Nat.le_refl _, hb.mono hR.size, k3.fz, fun r z hz => (k3.fzn r z hz).elim .inl fun h => .inr (Nat.le_trans hR.size h)⟩, rfl, rfl⟩
    refine ⟨fun b B L hB hL => (hg.blk b B L hB hL).mono hle fun _ _ => rfl, hg.inj, hg.dom, hg.size, k2.fzOk, fun r z b B L hz hB ho hL => ?_⟩
    rcases k3.fzn r z hz with h | h
    · exact hR.fzSep r z b B L h hB ho hL
    · obtain ⟨_, _, _, cc, e, fz, g4, _⟩ := (BlkRel.own_iff ho).1 (hR.blk b B L hB hL)
      have := (Array.getElem?_eq_some_iff.1 g4).1
      have h' : w.heap.size ≤ r := h
      omega

/-! ### A known block is written, read -/
section
variable {b : Nat} {B : Blk} (hb : H[b]? = some B) (C : Blk) (T : TypeId → Option TD) (t : TypeId) (o n : Nat) (v : AV) (L : List Blk)
include hb
theorem set_lt : b < H.length := (List.getElem?_eq_some_iff.1 hb).1
theorem get_set : (List.set H b C : Heap)[b]? = some C := List.getElem?_set_self (set_lt hb)
theorem get_set_app : (List.set H b C ++ L : Heap)[b]? = some C := by rw [List.getElem?_append_left (by rw [List.length_set]; exact set_lt hb)]; exact get_set hb C
theorem read_set : Heap.read (List.set H b C) b o n = if C.st.alive = true ∧ o + n ≤ C.cells.length then some ((C.cells.drop o).take n) else none := read_get (get_set hb C) o n
theorem read_set_app : Heap.read (List.set H b C ++ L : List Blk) b o n = if C.st.alive = true ∧ o + n ≤ C.cells.length then some ((C.cells.drop o).take n) else none := read_get (get_set_app hb C L) o n
theorem astore_set : astore T (List.set H b C) t (.ptr b o) v = match asize T t with
    | some n => if C.st.own = true ∧ v.solid = true ∧ v.cells.length = n ∧ o + v.cells.length ≤ C.cells.length then some (List.set H b ⟨wr C.cells o v.cells, C.esz, C.st⟩) else none
    | none => none := by
  rw [astore_get (get_set hb C) T t o v, List.set_set]; rfl
theorem astore_app : astore T (H ++ L : List Blk) t (.ptr b o) v = match asize T t with
    | some n => if B.st.own = true ∧ v.solid = true ∧ v.cells.length = n ∧ o + v.cells.length ≤ B.cells.length then some (List.set H b ⟨wr B.cells o v.cells, B.esz, B.st⟩ ++ L : List Blk) else none
    | none => none := by
  rw [astore_get (get_app hb L) T t o v]
  simp only [set_app hb]; rfl
theorem astore_set_app : astore T (List.set H b C ++ L : List Blk) t (.ptr b o) v = match asize T t with
    | some n => if C.st.own = true ∧ v.solid = true ∧ v.cells.length = n ∧ o + v.cells.length ≤ C.cells.length then some (List.set H b ⟨wr C.cells o v.cells, C.esz, C.st⟩ ++ L : List Blk) else none
    | none => none := by
  rw [astore_get (get_set_app hb C L) T t o v]
  simp only [set_app (get_set hb C), List.set_set]; rfl
end
theorem hget0s (H : Heap) (b : Nat) (C : Blk) (L : List Blk) : (List.set H b C ++ L : List Blk)[H.length]? = L[0]? := by have := hget0 (List.set H b C) L; rw [List.length_set] at this; exact this
theorem hgetks (H : Heap) (b : Nat) (C : Blk) (L : List Blk) (k : Nat) : (List.set H b C ++ L : List Blk)[H.length + k]? = L[k]? := by have := hgetk (List.set H b C) L k; rw [List.length_set] at this; exact this
theorem hread0s (H : Heap) (b : Nat) (C : Blk) (L : List Blk) (o n : Nat) : Heap.read (List.set H b C ++ L : List Blk) H.length o n = Heap.read L 0 o n := by unfold Heap.read; rw [hget0s]
theorem hreadks (H : Heap) (b : Nat) (C : Blk) (L : List Blk) (k o n : Nat) : Heap.read (List.set H b C ++ L : List Blk) (H.length + k) o n = Heap.read L k o n := by unfold Heap.read; rw [hgetks]
end
end Go.Proofs.PI
