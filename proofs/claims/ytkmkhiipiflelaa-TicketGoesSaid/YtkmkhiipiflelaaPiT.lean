import Derived.Test.YtkmkhiipiflelaaPiS
/-! PI, part T: values that hold their cells. What a call made and tells of is frozen when it comes back: memory is as it was, and the answer is a value. Inputs as values. -/
set_option linter.unusedVariables false
set_option linter.unusedSimpArgs false
namespace Go.Proofs.PI
open Go.RowKit

/-- A value without virtual blocks. -/
def AV.flat : AV → Bool
  | .int .. | .bool _ | .str _ | .nilp | .nils | .emp | .nul | .lst .. | .cptr _ | .nilf => true
  | _ => false
/-- What it is when the blocks from m on are frozen. -/
inductive Thaw (m : Nat) (H : Heap) : AV → AV → Prop
  | atom (a : AV) (h : a.flat = true) : Thaw m H a a
  | nils : Thaw m H .nils (.lst 0 [])
  | emp : Thaw m H .emp (.lst 0 [])
  | nul : Thaw m H .nul (.lst 0 [])
  | sl (b o n : Nat) (cap : Option Nat) (B : Blk) (cs : List AV) (hm : m ≤ b) (hB : H[b]? = some B) (ho : B.st.own = true) (hl : o + cs.length ≤ B.cells.length)
      (hc : ∀ (i : Nat) a c, B.cells[o + i]? = some a → cs[i]? = some c → Thaw m H a c) : Thaw m H (.sl b o n cap) (.lst n cs)
  | agg (l l' : List AV) (hl : l.length = l'.length) (h : ∀ (i : Nat) a c, l[i]? = some a → l'[i]? = some c → Thaw m H a c) : Thaw m H (.agg l) (.agg l')
  | tup (l l' : List AV) (hl : l.length = l'.length) (h : ∀ (i : Nat) a c, l[i]? = some a → l'[i]? = some c → Thaw m H a c) : Thaw m H (.tup l) (.tup l')
theorem Thaw.one {m : Nat} {H : Heap} {a c : AV} (h : Thaw m H a c) (ha : a.one = true) : c.one = true := by
  cases h <;> first | exact ha | rfl | cases ha

section
variable {P : Program} {φ : Ph} {base : Nat} {H : Heap} {w : World}
/-- The rows that are left alone then. -/
noncomputable def fzOf (φ : Ph) (m : Nat) (H : Heap) (w : World) : Nat → Option (List Value) := fun r =>
  open Classical in
  if ∃ b B L, m ≤ b ∧ H[b]? = some B ∧ B.st.own = true ∧ φ b = some L ∧ L.r = r then
    (match w.heap[r]? with
    | some (.cells c _ _) => some c.toList
    | _ => none)
  else φ.fz r
theorem fzOf_own {m : Nat} (hR : Rel base φ H w) {b : Nat} {B : Blk} {L : Loc} (hm : m ≤ b) (hB : H[b]? = some B) (ho : B.st.own = true) (hL : φ b = some L) :
    ∃ c e z, w.heap[L.r]? = some (.cells c e z) ∧ fzOf φ m H w L.r = some c.toList ∧ c.size = L.o + L.size ∧ B.cells.length ≤ L.size ∧ ∀ (i : Nat) a, B.cells[i]? = some a → a.one = true ∧ ∃ v, c[L.o + i]? = some v ∧ RV φ a v := by
  obtain ⟨_, _, _, c, e, z, h1, h2, h3, _, _, h4⟩ := (BlkRel.own_iff ho).1 (hR.blk b B L hB hL)
  refine ⟨c, e, z, h1, ?_, h2, h3, h4⟩
  unfold fzOf
  rw [if_pos ⟨b, B, L, hm, hB, ho, hL, rfl⟩, h1]
theorem fzOf_sub {m : Nat} (hR : Rel base φ H w) : ∀ r z, φ.fz r = some z → fzOf φ m H w r = some z := fun r z hz => by
  unfold fzOf
  rw [if_neg]
  · exact hz
  · rintro ⟨b, B, L, _, hB, ho, hL, rfl⟩
    exact hR.fzSep _ z b B L hz hB ho hL rfl
theorem fzOf_new {m : Nat} (hR : Rel base φ H w) : ∀ r z, fzOf φ m H w r = some z → φ.fz r = some z ∨ base ≤ r := fun r z hz => by
  unfold fzOf at hz
  split at hz
  · rename_i hex
    obtain ⟨b, B, L, h1, h2, h3, h4, h5⟩ := hex
    have := (BlkRel.own_iff h3).1 (hR.blk b B L h2 h4)
    rw [← h5]; exact .inr this.2.1
  · exact .inl hz
theorem fzOf_ok {m : Nat} (hR : Rel base φ H w) : ∀ r z, fzOf φ m H w r = some z → r < w.heap.size ∧ ∀ (i : Nat) u, z[i]? = some u → w.cell? ⟨r, i, none⟩ = some u := fun r z hz => by
  unfold fzOf at hz
  split at hz
  · rename_i hex
    split at hz
    · rename_i c e fz hc
      simp only [Option.some.injEq] at hz; subst hz
      exact ⟨(Array.getElem?_eq_some_iff.1 hc).1, fun i u hu => by simpa [World.cell?, hc] using hu⟩
    · cases hz
  · exact hR.fzOk r z hz

theorem Thaw.rv {m : Nat} (hR : Rel base φ H w) {a c : AV} (h : Thaw m H a c) : ∀ {v : Value}, RV φ a v → ∀ χ : Ph, χ.fz = fzOf φ m H w → RV χ c v := by
  induction h with
  | atom a ha =>
    intro v hv χ hχ
    have hle : ∀ r z, φ.fz r = some z → χ.fz r = some z := fun r z hz => by rw [hχ]; exact fzOf_sub hR r z hz
    have hb : φ.bare.le χ.bare := ⟨fun b L hb => (by cases hb), hle⟩
    cases hv <;> simp only [AV.flat, Bool.false_eq_true] at ha
    · exact .int _ _
    · exact .bool _
    · exact .str _
    · exact .nilp
    · exact .nils
    · exact .emp _ _
    · exact .nilf
    · rename_i n cs r o c z hc hl hone hz hx
      exact .lst n cs r o c z (hle r z hz) hc hl hone fun i a v ha hv => (hx i a v ha hv).mono hb
    · exact .lst0n
    · exact .lst0e _ _
    · rename_i cs r o z hl hone hz hx
      exact .cptr cs r o z (hle r z hz) hl hone fun i a v ha hv => (hx i a v ha hv).mono hb
    · exact .nul _
  | nils => intro v hv χ hχ; cases hv; exact .lst0n
  | emp => intro v hv χ hχ; cases hv; exact .lst0e _ _
  | nul => intro v hv χ hχ; cases hv; rename_i a; cases a; exact .lst0n; exact .lst0e _ _
  | sl b o n cap B cs hm hB ho hl hc ih =>
    intro v hv χ hχ
    cases hv
    rename_i L c hL hcap
    obtain ⟨rc, e, z, k1, k2, k3, k4, k5⟩ := fzOf_own hR hm hB ho hL
    have hz : χ.fz L.r = some rc.toList := by rw [hχ]; exact k2
    refine .lst n cs L.r (L.o + o) c rc.toList hz ⟨hcap.1, hcap.2.1⟩ (by simp; omega) (fun c hcm => ?_) fun i a v ha hv => ?_
    · obtain ⟨i, hi, rfl⟩ := List.getElem_of_mem hcm
      have hlt : o + i < B.cells.length := by omega
      exact (hc i _ _ (List.getElem?_eq_getElem hlt) (List.getElem?_eq_getElem hi)).one (k5 _ _ (List.getElem?_eq_getElem hlt)).1
    · have hi := (List.getElem?_eq_some_iff.1 ha).1
      have hlt : o + i < B.cells.length := by omega
      obtain ⟨_, u, hu, hr⟩ := k5 _ _ (List.getElem?_eq_getElem hlt)
      have : u = v := by
        rw [Array.getElem?_toList, show L.o + o + i = L.o + (o + i) by omega, hu] at hv
        simpa using hv
      subst this
      exact ih i _ a (List.getElem?_eq_getElem hlt) ha hr χ.bare hχ
  | agg l l' hl h ih =>
    intro v hv χ hχ
    obtain ⟨vs, rfl, hs⟩ := RV.agg_iff.1 hv
    refine RV.agg_iff.2 ⟨vs, rfl, hl.symm.trans hs.1, fun i a v ha hv => ?_⟩
    have hi : i < l.length := by rw [hl]; exact (List.getElem?_eq_some_iff.1 ha).1
    exact ih i _ a (List.getElem?_eq_getElem hi) ha (hs.2 i _ v (List.getElem?_eq_getElem hi) hv) χ hχ
  | tup l l' hl h ih =>
    intro v hv χ hχ
    obtain ⟨vs, rfl, hs⟩ := RV.tup_iff.1 hv
    refine RV.tup_iff.2 ⟨vs, rfl, hl.symm.trans hs.1, fun i a v ha hv => ?_⟩
    have hi : i < l.length := by rw [hl]; exact (List.getElem?_eq_some_iff.1 ha).1
    exact ih i _ a (List.getElem?_eq_getElem hi) ha (hs.2 i _ v (List.getElem?_eq_getElem hi) hv) χ hχ

/-- What told of old blocks tells so of them still. -/
theorem bare_sub {ψ χ : Ph} (hz : ∀ r z, ψ.fz r = some z → χ.fz r = some z) : ψ.bare.le χ.bare := ⟨fun b L hb => (by cases hb), hz⟩
theorem RV.cut {ψ χ : Ph} {a : AV} {u : Value} (h : RV ψ a u) : ∀ {φ : Ph} {v : Value}, RV φ a v → (∀ b L, φ b = some L → χ b = ψ b) → (∀ r z, ψ.fz r = some z → χ.fz r = some z) → RV χ a u := by
  induction h generalizing χ with
  | int k n => intros; exact .int _ _
  | bool b => intros; exact .bool _
  | str s => intros; exact .str _
  | nilp => intros; exact .nilp
  | ptr b o L h => intro φ v hv hk hz; cases hv; rename_i M hM; exact .ptr b o L (by rw [hk b M hM]; exact h)
  | nils => intros; exact .nils
  | emp a c => intros; exact .emp _ _
  | sl b o len cap L c h hc => intro φ v hv hk hz; cases hv; rename_i M c' hM _; exact .sl b o len cap L c (by rw [hk b M hM]; exact h) hc
  | agg l vs hl h ih =>
    intro φ v hv hk hz
    obtain ⟨us, rfl, hs⟩ := RV.agg_iff.1 hv
    refine .agg l vs hl fun i a u ha hu => ?_
    obtain ⟨x, _, hx⟩ := hs.getD i ha
    exact ih i a u ha hu hx hk hz
  | tup l vs hl h ih =>
    intro φ v hv hk hz
    obtain ⟨us, rfl, hs⟩ := RV.tup_iff.1 hv
    refine .tup l vs hl fun i a u ha hu => ?_
    obtain ⟨x, _, hx⟩ := hs.getD i ha
    exact ih i a u ha hu hx hk hz
  | fn f first caps vs ws hl h hk' h' ih ih' =>
    intro φ v hv hk hz
    cases hv
    rename_i vs' ws' hl2 h2 hk2 h2'
    have sub : ∀ (l : List AV) (us : Array Value), l.length = us.size → ∀ (i : Nat) a, l[i]? = some a → ∃ u, us[i]? = some u := fun l us hlen i a ha => by
      have hi := (List.getElem?_eq_some_iff.1 ha).1
      exact ⟨_, Array.getElem?_eq_getElem (by omega)⟩
    refine .fn f first caps vs ws hl (fun i a u ha hu => ?_) hk' fun i a u ha hu => ?_
    · obtain ⟨x, hx⟩ := sub first vs' hl2 i a ha
      exact ih i a u ha hu (h2 i a x ha hx) hk hz
    · obtain ⟨x, hx⟩ := sub caps ws' hk2 i a ha
      exact ih' i a u ha hu (h2' i a x ha hx) hk hz
  | nilf => intros; exact .nilf
  | lst n cs r o c z h hc hl h1 hx ih =>
    intro φ v hv hk hz
    refine .lst n cs r o c z (hz r z h) hc hl h1 fun i a v ha hv => (hx i a v ha hv).mono (bare_sub hz)
  | lst0n => intros; exact .lst0n
  | lst0e a c => intros; exact .lst0e _ _
  | cptr cs r o z h hl h1 hx ih =>
    intro φ v hv hk hz
    refine .cptr cs r o z (hz r z h) hl h1 fun i a v ha hv => (hx i a v ha hv).mono (bare_sub hz)
  | nul a => intros; exact .nul _
  | mp b L h => intro φ v hv hk hz; cases hv; rename_i M hM; exact .mp b L (by rw [hk b M hM]; exact h)
  | junk v => intros; exact .junk _

theorem WC_froze {f : FuncId} {args : List AV} {Q : AV → Prop} (h : WC P f args H fun r H' => ∃ c, Thaw H.length H' r c ∧ Keep none H H' ∧ Q c) : WC P f args H fun r H' => Q r ∧ H' = H := by
  refine ⟨h.1, fun base φ w vs hR hv => (h.2 base φ w vs hR hv).mono ?_⟩
  rintro e w' ⟨v, r, H', ψ, rfl, k1, k2, k3, c, ht, hk, hq⟩
  have hloc : ∀ b L, (⟨fun b => if b < H.length then ψ b else none, fzOf ψ H.length H' w'⟩ : Ph) b = some L → b < H.length ∧ ψ b = some L := fun b L hb => by
    simp only at hb
    split at hb
    · rename_i h; exact ⟨h, hb⟩
    · cases hb
  have hget : ∀ b B, b < H.length → H[b]? = some B → H'[b]? = some B := fun b B hb hB => by rw [hk.at_ b hb (by simp)]; exact hB
  have hcut : ∀ (b : Nat) (L : Loc), φ b = some L → (⟨fun b => if b < H.length then ψ b else none, fzOf ψ H.length H' w'⟩ : Ph) b = ψ b := fun b L hb => by
    simp only; rw [if_pos (hR.dom b L hb)]
  refine ⟨v, c, H, ⟨fun b => if b < H.length then ψ b else none, fzOf ψ H.length H' w'⟩, rfl, ht.rv k2 k1 _ rfl, ?_, ?_, hq, rfl⟩
  · refine ⟨fun b B L hB hL => ?_, fun b c B C L M hB hC h1 h2 hL hM hr => ?_, fun b L hL => (hloc b L hL).1, k2.size, fzOf_ok k2, fun r z b B L hz hB ho hL => ?_⟩
    · obtain ⟨hb, hL'⟩ := hloc b L hL
      have hφ : φ b = some L := by rw [← k3.keep b hb]; exact hL'
      have r0 := hR.blk b B L hB hφ
      have r1 := k2.blk b B L (hget b B hb hB) hL'
      unfold BlkRel at r0 r1 ⊢
      cases hst : B.st <;> rw [hst] at r0 r1 <;> simp only at r0 r1 ⊢
      · refine ⟨r1.1.imp id fun ⟨he, z, hz⟩ => ⟨he, z, fzOf_sub k2 _ z hz⟩, r1.2.1, fun i a ha => ?_⟩
        obtain ⟨_, _, _, h0⟩ := r0.2.2 i a ha
        obtain ⟨g1, v, g2, g3⟩ := r1.2.2 i a ha
        exact ⟨g1, v, g2, g3.cut h0 hcut (fzOf_sub k2)⟩
      rotate_left 2
      · exact r1
      all_goals
        obtain ⟨_, _, _, _, _, _, _, _, _, _, r0⟩ := r0
        obtain ⟨g1, g2, g3, cc, e, fz, g4, g5, g6, g7, g8⟩ := r1
        refine ⟨g1, g2, g3, cc, e, fz, g4, g5, g6, g7, fun i a ha => ?_⟩
        obtain ⟨_, _, _, h0⟩ := r0 i a ha
        obtain ⟨j1, v, j2, j3⟩ := g8 i a ha
        exact ⟨j1, v, j2, j3.cut h0 hcut (fzOf_sub k2)⟩
    · obtain ⟨hb, hL'⟩ := hloc b L hL
      obtain ⟨hc, hM'⟩ := hloc c M hM
      exact k2.inj b c B C L M (hget b B hb hB) (hget c C hc hC) h1 h2 hL' hM' hr
    · obtain ⟨hb, hL'⟩ := hloc b L hL
      have hB' := hget b B hb hB
      intro heq
      subst heq
      simp only [fzOf] at hz
      split at hz
      · rename_i hex
        obtain ⟨b', B', L', q1, q2, q3, q4, q5⟩ := hex
        have := k2.inj b' b B' B L' L q2 hB' q3 ho q4 hL' q5
        omega
      · exact k2.fzSep _ z b B L hz hB' ho hL' rfl
  · exact ⟨fun b hb => by simp only; rw [if_pos hb]; exact k3.keep b hb, Nat.le_refl _, k3.below, fun r z hz => fzOf_sub k2 r z (k3.fz r z hz), fun r z hz => (fzOf_new k2 r z hz).elim (k3.fzn r z) .inr⟩
/-- As a contract whose answer is a value. -/
theorem WC_val {f : FuncId} {args : List AV} {val : AV} (h : ∀ K : AV → Heap → Prop, (∀ r H', Thaw H.length H' r val → Keep none H H' → K r H') → WC P f args H K) : WC P f args H fun r H' => r = val ∧ H' = H :=
  WC_froze (Q := fun r => r = val) (h _ fun r H' h1 h2 => ⟨val, h1, h2, rfl⟩)
end

/-! ### Thawing, by hand -/
section
variable {m : Nat} {H : Heap}
/-- An own slice of values. -/
theorem Thaw.own {v : AV} {sz n : Nat} {cs : List AV} (h : Own m H v sz cs) (hf : ∀ a ∈ cs, a.flat = true) (hn : cs.length = n * sz) (hsz : 0 < sz) : Thaw m H v (.lst n cs) := by
  rcases h with ⟨rfl, rfl⟩ | ⟨b, k, st, rest, rfl, h1, h2, h4, h3⟩
  · have : n = 0 := by
      rcases Nat.eq_zero_or_pos n with h | h
      · exact h
      · have := Nat.mul_pos h hsz; simp at hn; omega
    subst this; exact .nils
  · have : k = n := Nat.eq_of_mul_eq_mul_right hsz (by omega)
    subst this
    refine .sl b 0 k none _ cs h1 h2 h4 (by simp) fun i a c ha hc => ?_
    have hi := (List.getElem?_eq_some_iff.1 hc).1
    rw [Nat.zero_add, List.getElem?_append_left hi, hc] at ha
    simp only [Option.some.injEq] at ha; subst ha
    exact .atom _ (hf _ (List.mem_of_getElem? hc))
theorem Thaw.row : ∀ {l l' : List AV}, All2 (Thaw m H) l l' → l.length = l'.length ∧ ∀ (i : Nat) a c, l[i]? = some a → l'[i]? = some c → Thaw m H a c
  | [], [], _ => ⟨rfl, fun i a c h => by simp at h⟩
  | a :: l, b :: l', h => by
    obtain ⟨h1, h2⟩ := Thaw.row h.2
    refine ⟨by simp [h1], fun i x y hx hy => ?_⟩
    cases i with
    | zero => simp at hx hy; subst hx; subst hy; exact h.1
    | succ i => exact h2 i x y (by simpa using hx) (by simpa using hy)
theorem Thaw.agg_row {l l' : List AV} (h : All2 (Thaw m H) l l') : Thaw m H (.agg l) (.agg l') := .agg l l' (Thaw.row h).1 (Thaw.row h).2
theorem Thaw.tup_row {l l' : List AV} (h : All2 (Thaw m H) l l') : Thaw m H (.tup l) (.tup l') := .tup l l' (Thaw.row h).1 (Thaw.row h).2
theorem Thaw.int (k : IntKind) (n : Int) : Thaw m H (.int k n) (.int k n) := .atom _ rfl
theorem Thaw.bool (b : Bool) : Thaw m H (.bool b) (.bool b) := .atom _ rfl
theorem Thaw.str (s : List UInt8) : Thaw m H (.str s) (.str s) := .atom _ rfl
theorem Thaw.lst (n : Nat) (cs : List AV) : Thaw m H (.lst n cs) (.lst n cs) := .atom _ rfl
theorem Thaw.keep0 {H' : Heap} (k : Keep none H H') {a c : AV} (h : Thaw m H a c) : Thaw m H' a c := by
  induction h with
  | atom a h => exact .atom a h
  | nils => exact .nils
  | emp => exact .emp
  | nul => exact .nul
  | sl b o n cap B cs hm hB ho hl hc ih => exact .sl b o n cap B cs hm (k.get hB (by simp)) ho hl ih
  | agg l l' hl h ih => exact .agg l l' hl ih
  | tup l l' hl h ih => exact .tup l l' hl ih
theorem Thaw.mono {m' : Nat} (hm' : m' ≤ m) {a c : AV} (h : Thaw m H a c) : Thaw m' H a c := by
  induction h with
  | atom a h => exact .atom a h
  | nils => exact .nils
  | emp => exact .emp
  | nul => exact .nul
  | sl b o n cap B cs hm hB ho hl hc ih => exact .sl b o n cap B cs (Nat.le_trans hm' hm) hB ho hl ih
  | agg l l' hl h ih => exact .agg l l' hl ih
  | tup l l' hl h ih => exact .tup l l' hl ih
end

/-! ### What comes in, as values -/
/-- The cells of an input of a type. -/
def InpP (T : TypeId → Option TD) : Nat → TypeId → List AV → Prop
  | 0, _, _ => False
  | n + 1, t, l => match tk T t with
    | .bool => ∃ b, l = [.bool b]
    | .int k => ∃ v, l = [.int k v] ∧ (Lit.int k v).wf = true
    | .str => ∃ s, l = [.str s] ∧ s.length ≤ reachBytes
    | .slice e => ∃ (sz : Nat) (els : List (List AV)), l = [.lst els.length els.flatten] ∧ (els.length ≤ maxLen ∧ ∀ d, T e = some d → els.length * d.bytes ≤ reachBytes) ∧ asize T e = some sz ∧ ∀ x ∈ els, x.length = sz ∧ InpP T n e x
    | .struct fs => ∃ parts : List (List AV), l = parts.flatten ∧ parts.length = fs.length ∧ ∀ (i : Nat) f p, fs[i]? = some f → parts[i]? = some p → asize T f.2 = some p.length ∧ InpP T n f.2 p
    | _ => False
def InpPV (T : TypeId → Option TD) (n : Nat) (t : TypeId) (a : AV) : Prop :=
  match tk T t with
  | .struct _ => ∃ l, a = .agg l ∧ InpP T n t l
  | _ => InpP T n t [a]
def InpPAll (T : TypeId → Option TD) (n : Nat) : List TypeId → List AV → Prop
  | [], [] => True
  | t :: ts, a :: as => InpPV T n t a ∧ InpPAll T n ts as
  | _, _ => False
theorem InpPAll.cons {T : TypeId → Option TD} {n : Nat} {t : TypeId} {ts : List TypeId} {l : List AV} (h : InpPAll T n (t :: ts) l) : ∃ a m, l = a :: m ∧ InpPV T n t a ∧ InpPAll T n ts m := by
  cases l with
  | nil => exact h.elim
  | cons a m => exact ⟨a, m, rfl, h.1, h.2⟩
theorem InpPAll.nil {T : TypeId → Option TD} {n : Nat} {l : List AV} (h : InpPAll T n [] l) : l = [] := by
  cases l with
  | nil => rfl
  | cons a m => exact h.elim

/-- All of the world's rows, left alone. -/
def fzAll (w : World) : Nat → Option (List Value) := fun r => match w.heap[r]? with
  | some (.cells c _ _) => some c.toList
  | _ => none
section
variable {P : Program} {T : TypeId → Option TD} {φ : Ph} {base : Nat} {H : Heap} {w : World}
theorem inpP_of {χ : Ph} (hχ : χ.fz = fzAll w) (hR : Rel base φ H w) (hfz : ∀ r z, φ.fz r = some z → fzAll w r = some z) : ∀ (n : Nat) (t : TypeId) (l : List AV) (us : List Value), okTy T n t = true → Inp T H n t l → RVs φ l us → ∀ χ : Ph, χ.fz = fzAll w → ∃ l', RVs χ l' us ∧ InpP T n t l' ∧ ∀ a ∈ l', a.one = true
  | 0, t, l, us, hok, h, hr, χ, hχ => h.elim
  | n + 1, t, l, us, hok, h, hr, χ, hχ => by
    unfold Inp at h
    unfold okTy at hok
    unfold InpP
    split at h
    · rename_i hk
      obtain ⟨b, rfl⟩ := h
      obtain ⟨u, us', rfl, h1, h2⟩ := hr.cons_left
      obtain rfl := h2.nil_left
      cases h1
      simp only [hk]
      exact ⟨[.bool b], RVs.cons (.bool b) (RVs.nil _), ⟨b, rfl⟩, by simp [AV.one]⟩
    · rename_i k hk
      obtain ⟨v, rfl, hw⟩ := h
      obtain ⟨u, us', rfl, h1, h2⟩ := hr.cons_left
      obtain rfl := h2.nil_left
      cases h1
      simp only [hk]
      exact ⟨[.int k v], RVs.cons (.int k v) (RVs.nil _), ⟨v, rfl, hw⟩, by simp [AV.one]⟩
    · rename_i hk
      obtain ⟨s, rfl, hw⟩ := h
      obtain ⟨u, us', rfl, h1, h2⟩ := hr.cons_left
      obtain rfl := h2.nil_left
      cases h1
      simp only [hk]
      exact ⟨[.str s], RVs.cons (.str s) (RVs.nil _), ⟨s, rfl, hw⟩, by simp [AV.one]⟩
    · rename_i e hk
      simp only [hk] at hok ⊢
      simp only [Bool.and_eq_true] at hok
      obtain ⟨hsz, hoke⟩ := hok
      split at hsz
      · rename_i k hke
        rcases h with rfl | rfl | ⟨b, len, sz, els, rfl, h1, h2, h3, h4, h5, h6⟩
        · obtain ⟨u, us', rfl, h1, h2⟩ := hr.cons_left
          obtain rfl := h2.nil_left
          cases h1
          exact ⟨[.lst 0 []], RVs.cons .lst0n (RVs.nil _), ⟨k + 1, [], rfl, ⟨by simp, by simp⟩, hke, by simp⟩, by simp [AV.one]⟩
        · obtain ⟨u, us', rfl, h1, h2⟩ := hr.cons_left
          obtain rfl := h2.nil_left
          cases h1
          rename_i a c
          exact ⟨[.lst 0 []], RVs.cons (.lst0e a c) (RVs.nil _), ⟨k + 1, [], rfl, ⟨by simp, by simp⟩, hke, by simp⟩, by simp [AV.one]⟩
        · obtain ⟨u, us', rfl, g1, g2⟩ := hr.cons_left
          obtain rfl := g2.nil_left
          cases g1
          rename_i L c hL hcap
          rw [h3] at hke
          simp only [Option.some.injEq] at hke
          have hfl : els.flatten.length = len * sz := by rw [flatten_len fun x hx => (h6 x hx).1, h5]
          have hB := hR.blk b _ L h4 hL
          unfold BlkRel at hB
          simp only at hB
          obtain ⟨_, _, hcell⟩ := hB
          have hpos : 0 < els.flatten.length := by rw [hfl]; exact Nat.mul_pos h1 (by omega)
          obtain ⟨rc, re, rz, hrow⟩ : ∃ rc re rz, w.heap[L.r]? = some (.cells rc re rz) := by
            obtain ⟨_, v, hv, _⟩ := hcell 0 _ (List.getElem?_eq_getElem hpos)
            unfold World.cell? at hv
            split at hv
            · rename_i c e z hc; exact ⟨c, e, z, hc⟩
            · cases hv
          have hz : χ.fz L.r = some rc.toList := by rw [hχ]; simp [fzAll, hrow]
          have hcell' : ∀ (i : Nat) a, els.flatten[i]? = some a → a.one = true ∧ ∃ v, rc[L.o + i]? = some v ∧ RV φ a v := fun i a ha => by
            obtain ⟨g1, v, g2, g3⟩ := hcell i a ha
            refine ⟨g1, v, ?_, g3⟩
            simpa [World.cell?, hrow] using g2
          -- element by element
          have main : ∀ (q : Nat), q ≤ els.length → ∃ els' : List (List AV), els'.length = q ∧ (∀ x ∈ els', x.length = sz ∧ InpP T n e x) ∧ (∀ a ∈ els'.flatten, a.one = true) ∧ ∀ (i : Nat) a v, els'.flatten[i]? = some a → rc[L.o + i]? = some v → RV χ.bare a v := by
            intro q
            induction q with
            | zero => intro _; exact ⟨[], rfl, by simp, by simp, fun i a v h => by simp at h⟩
            | succ q ih =>
              intro hq
              obtain ⟨els', k1, k2, k3, k4⟩ := ih (by omega)
              have hqe : q < els.length := by omega
              obtain ⟨x1, x2⟩ := h6 _ (List.getElem_mem hqe)
              have hseg : RVs φ els[q] ((rc.toList.drop (L.o + q * sz)).take sz) := by
                have hlen : L.o + q * sz + sz ≤ rc.size := by
                  have hlast : (q + 1) * sz ≤ els.flatten.length := by rw [hfl, ← h5]; exact Nat.mul_le_mul_right _ hq
                  rw [Nat.succ_mul] at hlast
                  obtain ⟨_, v, hv, _⟩ := hcell' (q * sz + sz - 1) _ (List.getElem?_eq_getElem (by omega))
                  have := (Array.getElem?_eq_some_iff.1 hv).1
                  omega
                refine ⟨by rw [x1, List.length_take, List.length_drop, Array.length_toList]; omega, fun j a v ha hv => ?_⟩
                have hj := (List.getElem?_eq_some_iff.1 ha).1
                have hfa : els.flatten[q * sz + j]? = some a := by
                  have := flatten_at (fun x hx => (h6 x hx).1) hqe
                  rw [← this, List.getElem?_take, if_pos (by omega), List.getElem?_drop] at ha; exact ha
                obtain ⟨_, u, hu, hr⟩ := hcell' _ a hfa
                rw [List.getElem?_take] at hv
                split at hv
                · rw [List.getElem?_drop, Array.getElem?_toList, show L.o + q * sz + j = L.o + (q * sz + j) by omega, hu] at hv
                  simp only [Option.some.injEq] at hv; subst hv; exact hr
                · cases hv
              obtain ⟨l', j1, j2, j3⟩ := inpP_of hχ hR hfz n e _ _ hoke x2 hseg χ.bare hχ
              have hl' : l'.length = sz := by rw [j1.1, ← hseg.1, x1]
              have hfl' : els'.flatten.length = q * sz := by rw [flatten_len fun x hx => (k2 x hx).1, k1]
              refine ⟨els' ++ [l'], by simp [k1], fun x hx => ?_, fun a ha => ?_, fun i a v ha hv => ?_⟩
              · rcases List.mem_append.1 hx with hx | hx
                · exact k2 x hx
                · simp at hx; subst hx; exact ⟨hl', j2⟩
              · rw [List.flatten_append, List.mem_append] at ha
                rcases ha with ha | ha
                · exact k3 a ha
                · simp at ha; exact j3 a ha
              · rw [List.flatten_append, List.getElem?_append] at ha
                split at ha
                · exact k4 i a v ha hv
                · rename_i hi
                  rw [hfl'] at ha hi
                  simp at ha
                  have hil := (List.getElem?_eq_some_iff.1 ha).1
                  refine j1.2 (i - q * sz) a v ha ?_
                  rw [List.getElem?_take, if_pos (by omega), List.getElem?_drop, Array.getElem?_toList, show L.o + q * sz + (i - q * sz) = L.o + i by omega]
                  exact hv
          obtain ⟨els', k1, k2, k3, k4⟩ := main els.length (Nat.le_refl _)
          have hfl' : els'.flatten.length = len * sz := by rw [flatten_len fun x hx => (k2 x hx).1, k1, h5]
          have hlast : L.o + len * sz ≤ rc.size := by
            obtain ⟨_, v, hv, _⟩ := hcell' (len * sz - 1) _ (List.getElem?_eq_getElem (by omega))
            have := (Array.getElem?_eq_some_iff.1 hv).1
            omega
          refine ⟨[.lst els'.length els'.flatten], RVs.cons ?_ (RVs.nil _), ⟨sz, els', rfl, by rw [k1, h5]; exact h2, h3, k2⟩, by simp [AV.one]⟩
          rw [k1, h5]
          refine .lst len _ L.r (L.o + 0) c rc.toList hz ⟨hcap.1, hcap.2.1⟩ (by rw [hfl', Array.length_toList]; omega) k3 fun i a v ha hv => k4 i a v ha ?_
          rw [Array.getElem?_toList] at hv; exact hv
      · cases hsz
    · rename_i fs hk
      simp only [hk] at hok ⊢
      simp only [Bool.and_eq_true] at hok
      obtain ⟨hcon, hall⟩ := hok
      obtain ⟨parts, rfl, h2, h3⟩ := h
      have main : ∀ (parts : List (List AV)) (fs : List (Nat × TypeId)) (us : List Value), parts.length = fs.length → (∀ f ∈ fs, okTy T n f.2 = true) → (∀ (i : Nat) f p, fs[i]? = some f → parts[i]? = some p → asize T f.2 = some p.length ∧ Inp T H n f.2 p) → RVs φ parts.flatten us →
          ∃ parts' : List (List AV), parts'.length = fs.length ∧ (∀ (i : Nat) f p, fs[i]? = some f → parts'[i]? = some p → asize T f.2 = some p.length ∧ InpP T n f.2 p) ∧ RVs χ parts'.flatten us ∧ ∀ a ∈ parts'.flatten, a.one = true := by
        intro parts
        induction parts with
        | nil =>
          intro fs us hl _ _ hr
          cases fs with
          | nil => exact ⟨[], rfl, fun i f p h => by simp at h, by simpa using (by obtain rfl := RVs.nil_left (by simpa using hr); exact RVs.nil χ), by simp⟩
          | cons f fs => simp at hl
        | cons p parts ih =>
          intro fs us hl hok hp hr
          cases fs with
          | nil => simp at hl
          | cons f fs =>
            rw [List.flatten_cons] at hr
            have r1 : RVs φ p (us.take p.length) := by
              have := hr.take p.length
              rwa [List.take_left] at this
            have r2 : RVs φ parts.flatten (us.drop p.length) := by
              have := hr.drop p.length
              rwa [List.drop_left] at this
            obtain ⟨g1, g2⟩ := hp 0 f p rfl rfl
            obtain ⟨l', j1, j2, j3⟩ := inpP_of hχ hR hfz n f.2 p _ (hok f (by simp)) g2 r1 χ hχ
            obtain ⟨parts', k1, k2, k3, k4⟩ := ih fs _ (by simpa using hl) (fun f hf => hok f (by simp [hf])) (fun i f p hf hp' => hp (i + 1) f p (by simpa using hf) (by simpa using hp')) r2
            refine ⟨l' :: parts', by simp [k1], fun i f' p' hf hp' => ?_, ?_, fun a ha => ?_⟩
            · cases i with
              | zero =>
                simp at hf hp'; subst hf; subst hp'
                exact ⟨by rw [g1]; congr 1; have := r1.1; have := j1.1; omega, j2⟩
              | succ i => exact k2 i f' p' (by simpa using hf) (by simpa using hp')
            · rw [List.flatten_cons, ← List.take_append_drop p.length us]; exact j1.append k3
            · rw [List.flatten_cons, List.mem_append] at ha
              rcases ha with ha | ha
              · exact j3 a ha
              · exact k4 a ha
      obtain ⟨parts', k1, k2, k3, k4⟩ := main parts fs us h2 (fun f hf => List.all_eq_true.1 hall f hf) h3 hr
      exact ⟨parts'.flatten, k3, ⟨parts', rfl, k1, k2⟩, k4⟩
    · exact h.elim
theorem inpPV_of (hR : Rel base φ H w) (hfz : ∀ r z, φ.fz r = some z → fzAll w r = some z) {n : Nat} {t : TypeId} {a : AV} {u : Value} (hok : okTy T n t = true) (h : InpV T H n t a) (hr : RV φ a u) (χ : Ph) (hχ : χ.fz = fzAll w) : ∃ a', RV χ a' u ∧ InpPV T n t a' := by
  unfold InpV at h
  unfold InpPV
  split at h
  · rename_i fs hk
    simp only [hk]
    obtain ⟨l, rfl, h⟩ := h
    obtain ⟨us, rfl, hs⟩ := RV.agg_iff.1 hr
    obtain ⟨l', k1, k2, _⟩ := inpP_of hχ hR hfz n t l us.toList hok h hs χ hχ
    exact ⟨.agg l', RV.agg_iff.2 ⟨us, rfl, k1⟩, l', rfl, k2⟩
  · rename_i hk
    obtain ⟨l', k1, k2, _⟩ := inpP_of hχ hR hfz n t [a] [u] hok h (RVs.cons hr (RVs.nil _)) χ hχ
    have hlen := k1.1
    match l', hlen with
    | [a'], _ =>
      refine ⟨a', k1.head, ?_⟩
      split
      · rename_i fs hfs; exact absurd hfs (hk fs)
      · exact k2
theorem inpPAll_of (hR : Rel base φ H w) (hfz : ∀ r z, φ.fz r = some z → fzAll w r = some z) {n : Nat} (χ : Ph) (hχ : χ.fz = fzAll w) : ∀ (ts : List TypeId) (as : List AV) (us : List Value), ts.all (okTy T n) = true → InpAll T H n ts as → RVs φ as us → ∃ as', RVs χ as' us ∧ InpPAll T n ts as'
  | [], as, us, _, h, hr => by
    obtain rfl := h.nil
    obtain rfl := hr.nil_left
    exact ⟨[], RVs.nil _, trivial⟩
  | t :: ts, as, us, hok, h, hr => by
    obtain ⟨a, m, rfl, h1, h2⟩ := h.cons
    obtain ⟨u, us', rfl, r1, r2⟩ := hr.cons_left
    simp only [List.all_cons, Bool.and_eq_true] at hok
    obtain ⟨a', k1, k2⟩ := inpPV_of hR hfz hok.1 h1 r1 χ hχ
    obtain ⟨as', j1, j2⟩ := inpPAll_of hR hfz χ hχ ts m us' hok.2 h2 r2
    exact ⟨a' :: as', RVs.cons k1 j1, k2, j2⟩
theorem Rel.all (w : World) : Rel w.heap.size ⟨fun _ => none, fzAll w⟩ [] w :=
by
  refine ⟨fun b B L h => by simp at h, fun b c B C L M h => by simp at h, fun b L h => (by cases h), Nat.le_refl _, fun r z hz => ?_, fun r z b B L hz hB => by simp at hB⟩
  simp only [fzAll] at hz
  split at hz
  · rename_i c e fz hc
    simp only [Option.some.injEq] at hz; subst hz
    exact ⟨(Array.getElem?_eq_some_iff.1 hc).1, fun i u hu => by simpa [World.cell?, hc] using hu⟩
  · cases hz
/-- THE CALL OF A LAW whose arguments are values. -/
theorem calls_of_WCP {K : Type} {enc : TypeId × Value → K} (hT : TOk P T) {n : Nat} {r : Reach} {b0 : Nat} {f : FuncId} {W : World} {ts : List TypeId} {args : Array Value} {ds : List (DataW K)} {ps : List MemPlace}
    (hok : ts.all (okTy T n) = true) (hval : ∀ (j : Nat) t v, ts[j]? = some t → args.toList[j]? = some v → Value.okWide P W r b0 t v) (hA : DataW.TrodAll enc P W 0 (fun _ => true) true ts args.toList ds ps) (hwt : ∀ k ∈ DataW.weightsEach P ts ds, k ≤ reachBytes)
    (walk : ∀ (as : List AV), InpPAll T n ts as → WC P f as [] fun v _ => v = .bool true) :
    Calls P f args W fun e W' => e = .returned (.bool true) ∧ Below W.heap.size W W' := by
  obtain ⟨G, φ, as, h1, h2, h3, h4⟩ := inpAll_of_trodAll hT ts args.toList ds ps hok hval hA hwt [] _ (Rel.empty W)
  obtain ⟨as', k1, k2⟩ := inpPAll_of h1 (fun r z hz => by rw [h2.fz] at hz; cases hz) ⟨fun _ => none, fzAll W⟩ rfl ts as args.toList hok h4 h3
  have hc := (walk as' k2).2 _ _ W _ (Rel.all W) k1
  refine hc.mono ?_
  rintro e W' ⟨v, rv, H', φ', rfl, j1, j2, j3, rfl⟩
  cases j1
  exact ⟨rfl, j3.below⟩
end
end Go.Proofs.PI

