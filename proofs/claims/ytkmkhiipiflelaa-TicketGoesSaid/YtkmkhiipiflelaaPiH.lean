import Derived.Test.YtkmkhiipiflelaaPiG
/-! PI, part H: append. -/
set_option linter.unusedVariables false
set_option linter.unusedSimpArgs false
namespace Go.Proofs.PI
open Go.RowKit
section
variable {P : Program} {T : TypeId → Option TD} {φ : Ph} {base : Nat} {H : Heap} {w w' : World}

/-- As 'Rel.catch', the row being one that no own block has. -/
theorem Rel.catch2 (h : Rel base φ H w) {s : Nat} {B : Blk} (hs : H[s]? = some B) (hun : φ s = none) (hst : B.st.own = true) {L : Loc}
    (hb : ∀ k, k < w.heap.size → k ≠ L.r → w'.heap[k]? = w.heap[k]?) (hne : ∀ (c : Nat) (C : Blk) M, H[c]? = some C → C.st.own = true → φ c = some M → M.r ≠ L.r) (hL : base ≤ L.r) (hsz : w.heap.size ≤ w'.heap.size) (hfz : ∀ r z, φ.fz r = some z → L.r ≠ r)
    (hrel : BlkRel base (upd φ s L) B L w') (hmp : ∀ es clk, w.heap[L.r]? ≠ some (.map es clk)) : Rel base (upd φ s L) H w' := by
  have hsub := upd_sub L hun
  refine ⟨fun b C M hC hM => ?_, fun b c C D M N hC hD h1 h2 hM hN hr => ?_, fun b M hM => ?_, Nat.le_trans h.size hsz, h.fzKeep (fun r z hz => hb r (h.fzOk r z hz).1 (fun e => hfz r z hz e.symm)) hsz, fun r z b C M hz hC ho hM => ?_⟩
  rotate_left 3
  · by_cases e : b = s
    · subst e
      rw [upd_same] at hM
      simp only [Option.some.injEq] at hM; subst hM
      exact hfz r z hz
    · rw [upd_other φ L e] at hM; exact h.fzSep r z b C M hz hC ho hM
  · by_cases e : b = s
    · subst e
      rw [upd_same] at hM
      simp only [Option.some.injEq] at hM; subst hM
      rw [hs] at hC
      simp only [Option.some.injEq] at hC; subst hC
      exact hrel
    · rw [upd_other φ L e] at hM
      have hrel := h.blk b C M hC hM
      cases hcs : C.st with
      | dead => simp [BlkRel, hcs]
      | ro =>
        unfold BlkRel at hrel ⊢
        rw [hcs] at hrel ⊢
        simp only at hrel ⊢
        refine ⟨hrel.1.mono hsub, hrel.2.1, fun i a ha => ?_⟩
        obtain ⟨k1, v, hv, hr⟩ := hrel.2.2 i a ha
        refine ⟨k1, v, ?_, hr.mono hsub⟩
        have hlt := World.block_lt_of_cell? w _ hv
        have hne' : M.r ≠ L.r := by
          rcases hrel.1 with ⟨_, h'⟩ | ⟨_, z, hz⟩
          · omega
          · exact fun e => hfz _ z hz e.symm
        rw [World.cell?_of_block (w := w) (hb _ hlt hne')]; exact hv
      | opn =>
        have ho : C.st.own = true := by rw [hcs]; rfl
        obtain ⟨k1, k2, k3, c', e', fz', k4, k5, k6, k7, k8, k9⟩ := (BlkRel.own_iff ho).1 hrel
        have hlt : M.r < w.heap.size := (Array.getElem?_eq_some_iff.1 k4).1
        exact (BlkRel.own_iff ho).2 ⟨k1, k2, k3, c', e', fz', by rw [hb _ hlt (hne b C M hC ho hM)]; exact k4, k5, k6, k7, k8, fun i a ha => by
          obtain ⟨j1, v, hv, hr⟩ := k9 i a ha; exact ⟨j1, v, hv, hr.mono hsub⟩⟩
      | full =>
        have ho : C.st.own = true := by rw [hcs]; rfl
        obtain ⟨k1, k2, k3, c', e', fz', k4, k5, k6, k7, k8, k9⟩ := (BlkRel.own_iff ho).1 hrel
        have hlt : M.r < w.heap.size := (Array.getElem?_eq_some_iff.1 k4).1
        exact (BlkRel.own_iff ho).2 ⟨k1, k2, k3, c', e', fz', by rw [hb _ hlt (hne b C M hC ho hM)]; exact k4, k5, k6, k7, k8, fun i a ha => by
          obtain ⟨j1, v, hv, hr⟩ := k9 i a ha; exact ⟨j1, v, hv, hr.mono hsub⟩⟩
      | mp =>
        refine hrel.mpKeep hcs (hrel.mp_row hcs).1 fun es clk hw => ?_
        rw [hb _ (Array.getElem?_eq_some_iff.1 hw).1 (fun e => by rw [e] at hw; exact hmp es clk hw)]
        exact hw
  · by_cases e : b = s
    · by_cases e' : c = s
      · rw [e, e']
      · subst e
        rw [upd_same] at hM
        simp only [Option.some.injEq] at hM; subst hM
        rw [upd_other φ L e'] at hN
        exact absurd hr.symm (hne c D N hD h2 hN)
    · by_cases e' : c = s
      · subst e'
        rw [upd_same] at hN
        simp only [Option.some.injEq] at hN; subst hN
        rw [upd_other φ L e] at hM
        exact absurd hr (hne b C M hC h1 hM)
      · rw [upd_other φ L e] at hM
        rw [upd_other φ L e'] at hN
        exact h.inj b c C D M N hC hD h1 h2 hM hN hr
  · by_cases e : b = s
    · subst e; exact (List.getElem?_eq_some_iff.1 hs).1
    · rw [upd_other φ L e] at hM; exact h.dom b M hM

/-- What an append's second argument gives: how many elements, and their cells. -/
def asrc (T : TypeId → Option TD) (H : Heap) (tx : TypeId) (x : AV) (sz : Nat) : Option (Nat × List AV) :=
  match tk T tx, x with
  | .slice _, .nils => some (0, [])
  | .slice _, .emp => some (0, [])
  | .slice _, .sl b o len _ => (H.read b o (len * sz)).map fun l => (len, l)
  | .slice _, .lst n cs => if cs.length = n * sz then some (n, cs) else none
  | .slice _, .nul => some (0, [])
  | .str, .str s => if sz = 1 then some (s.length, s.map fun b => .int .u8 b.toNat) else none
  | _, _ => none
theorem asrc_run (hT : TOk P T) (hR : Rel base φ H w) {tx : TypeId} {x : AV} {sz k : Nat} {xs : List AV} (h : asrc T H tx x sz = some (k, xs)) {x' : Value} (hx : RV φ x x') :
    ∃ news, Src P sz tx x' k news w ∧ RVs φ xs news ∧ (∀ a ∈ xs, a.one = true) ∧ xs.length = k * sz := by
  unfold asrc at h
  split at h
  · rename_i e hk
    obtain ⟨d, i, u, z, hd, hdk, hi⟩ := tk_is hT hk (by simp)
    have hu := hi.und
    rw [tkOf_slice (hi.k.trans hdk)] at hu
    simp only [Option.some.injEq, Prod.mk.injEq] at h
    obtain ⟨rfl, rfl⟩ := h
    cases hx
    exact ⟨[], Src.ofNil w hu 0, RVs.nil φ, by simp, by simp⟩
  · rename_i e hk
    obtain ⟨d, i, u, z, hd, hdk, hi⟩ := tk_is hT hk (by simp)
    have hu := hi.und
    rw [tkOf_slice (hi.k.trans hdk)] at hu
    simp only [Option.some.injEq, Prod.mk.injEq] at h
    obtain ⟨rfl, rfl⟩ := h
    cases hx
    rename_i a c
    exact ⟨[], Src.ofSlice w hu a 0 c [] (by simp) (fun j u hj => by simp at hj) (by simp), RVs.nil φ, by simp, by simp⟩
  · rename_i e b o len cap hk'
    obtain ⟨d, i, u, z, hd, hdk, hi⟩ := tk_is hT hk' (by simp)
    have hu := hi.und
    rw [tkOf_slice (hi.k.trans hdk)] at hu
    cases hr : H.read b o (len * sz) with
    | none => rw [hr] at h; cases h
    | some l =>
      rw [hr] at h
      simp only [Option.map_some, Option.some.injEq, Prod.mk.injEq] at h
      obtain ⟨rfl, rfl⟩ := h
      cases hx
      rename_i L c hL hc
      obtain ⟨h1, vs, h2, h3, h4⟩ := hR.read hr hL
      exact ⟨vs, Src.ofSlice w hu _ len c vs (h2.1.symm.trans (read_length hr)) (fun j u hj => by rw [addr_add]; exact h3 j u hj) h4, h2, h1, read_length hr⟩
  · rename_i e n cs hk'
    obtain ⟨d, i, u, z, hd, hdk, hi⟩ := tk_is hT hk' (by simp)
    have hu := hi.und
    rw [tkOf_slice (hi.k.trans hdk)] at hu
    split at h
    · rename_i hlen
      simp only [Option.some.injEq, Prod.mk.injEq] at h
      obtain ⟨rfl, rfl⟩ := h
      cases hx
      · rename_i r o c fz hz hc hlz hone hxx
        obtain ⟨vs, k1, k2, k3⟩ := hR.fzRead hz hlz hone hxx
        exact ⟨vs, Src.ofSlice w hu _ n c vs (k1.1.symm.trans hlen) (fun j u hj => by rw [addr_add]; exact k2 j u hj) k3, k1, hone, hlen⟩
      · exact ⟨[], Src.ofNil w hu 0, RVs.nil φ, by simp, by simp⟩
      · rename_i a c
        exact ⟨[], Src.ofSlice w hu a 0 c [] (by simp) (fun j u hj => by simp at hj) (by simp), RVs.nil φ, by simp, by simp⟩
    · cases h
  · rename_i e hk
    obtain ⟨d, i, u, z, hd, hdk, hi⟩ := tk_is hT hk (by simp)
    have hu := hi.und
    rw [tkOf_slice (hi.k.trans hdk)] at hu
    simp only [Option.some.injEq, Prod.mk.injEq] at h
    obtain ⟨rfl, rfl⟩ := h
    cases hx
    rename_i a
    cases a with
    | none => exact ⟨[], Src.ofNil w hu 0, RVs.nil φ, by simp, by simp⟩
    | some a => exact ⟨[], Src.ofSlice w hu a 0 0 [] (by simp) (fun j u hj => by simp at hj) (by simp), RVs.nil φ, by simp, by simp⟩
  · rename_i s hk
    obtain ⟨d, i, u, z, hd, hdk, hi⟩ := tk_is hT hk (by simp)
    have hu := hi.und
    rw [tkOf_str (hi.k.trans hdk)] at hu
    split at h
    · rename_i hsz
      subst hsz
      simp only [Option.some.injEq, Prod.mk.injEq] at h
      obtain ⟨rfl, rfl⟩ := h
      cases hx
      have := Src.ofString (P := P) w hu ⟨s.toArray⟩
      rw [mk_size] at this
      refine ⟨_, this, ⟨by simp [byteCells], fun i a v ha hv => ?_⟩, fun a ha => ?_, by simp⟩
      · simp only [byteCells] at hv
        rw [List.getElem?_map] at ha hv
        cases hb : s[i]? with
        | none => rw [hb] at ha; cases ha
        | some b => rw [hb] at ha; simp only [hb, Option.map_some, Option.some.injEq] at ha hv; subst ha; subst hv; exact .int _ _
      · simp only [List.mem_map] at ha; obtain ⟨b, _, rfl⟩ := ha; rfl
    · cases h
  · cases h

/-- There is room for an append, surely. -/
def roomFor (B : Blk) (o len k sz : Nat) (cap : Option Nat) : Bool :=
  B.st.own && decide (B.esz = sz) && decide (0 < sz) && decide (o + (len + k) * sz ≤ B.cells.length) && (match cap with | some c => decide (len + k ≤ c) | none => true)
/-- There is none, surely. -/
def noRoomFor (B : Blk) (o len k sz : Nat) (cap : Option Nat) : Bool :=
  match cap with
  | some c => decide (c < len + k)
  | none => match B.st with
    | .full => decide (B.esz = sz) && decide (B.cells.length < o + (len + k) * sz)
    | _ => false
def aappend (T : TypeId → Option TD) (H : Heap) (t tx : TypeId) (s x : AV) : Option (AV × Heap) :=
  match asliceElem T t with
  | some (e, sz) => match azero T e, T e, asrc T H tx x sz with
    | some z, some d, some (k, xs) => match s with
      | .nils => if k = 0 then some (.nils, H) else if k * d.bytes ≤ 140737488355328 ∧ k ≤ 140737488355328 then some (.sl H.length 0 k none, H ++ [⟨xs, sz, .opn⟩]) else none
      | .emp => if k = 0 then some (.emp, H) else none
      | .nul => if k = 0 then some (.nul, H) else if k * d.bytes ≤ 140737488355328 ∧ k ≤ 140737488355328 then some (.sl H.length 0 k none, H ++ [⟨xs, sz, .opn⟩]) else none
      | .sl b o len cap => if k = 0 then some (.sl b o len cap, H) else match H[b]? with
        | some B =>
          if roomFor B o len k sz cap = true then some (.sl b o (len + k) cap, H.set b ⟨wr B.cells (o + len * sz) xs, B.esz, B.st⟩)
          else if (len + k) * d.bytes ≤ 140737488355328 ∧ len + k ≤ 140737488355328 ∧ 0 < sz then
            match H.read b o (len * sz) with
            | some old =>
              if noRoomFor B o len k sz cap = true then some (.sl H.length 0 (len + k) none, H ++ [⟨old ++ xs, sz, .opn⟩])
              else if B.st.own = true ∧ B.esz = sz ∧ cap = none then some (.sl H.length 0 (len + k) none, H.set b ⟨B.cells, B.esz, .dead⟩ ++ [⟨old ++ xs, sz, .opn⟩])
              else none
            | none => none
          else none
        | none => none
      | _ => none
    | _, _, _ => none
  | none => none

/-- A new row for an append. -/
theorem grow_new (hT : TOk P T) (hR : Rel base φ H w) {t tx e sz len k c : Nat} {z : List AV} {d : TD} (hu : P.underlying t = some (.slice e)) (hz : azero T e = some z) (hd : T e = some d) (hsz : z.length = sz)
    {s' x' : Value} {a : Option Addr} {xs old : List AV} {news olds : List Value} (hsrc : Src P sz tx x' k news w) (hn : RVs φ xs news) (h1 : ∀ a ∈ xs, a.one = true) (hl : xs.length = k * sz)
    (hold : (Builtin.firstCells sz len (.slice a len c)).run P w.drew = .ok olds.toArray w.drew) (ho : RVs φ old olds) (ho1 : ∀ a ∈ old, a.one = true) (hol : old.length = len * sz)
    (hs' : s' = .slice a len c) (hc : c < len + k) (hb : (len + k) * d.bytes ≤ 140737488355328) (hm : len + k ≤ 140737488355328) (ty : TypeId) :
    ∃ u w' L, (Builtin.append_ #[t, tx] ty #[s', x']).run P w = .ok u w' ∧ Rel base (upd φ H.length L) (H ++ [⟨old ++ xs, sz, .opn⟩]) w' ∧ RV (upd φ H.length L) (.sl H.length 0 (len + k) none) u ∧ Below base w w' := by
  obtain ⟨i, zv, g1, g2, g3, g4, g5, g6⟩ := azero_is hT hz
  obtain ⟨i', u', z', hi'⟩ := tdOf_is (hT e d hd)
  have hii : i' = i := by have := hi'.info; rw [g1] at this; cases this; rfl
  subst hii
  have hby : i'.bytes = d.bytes := hi'.bytes
  have hsz' : i'.size = sz := g3.trans hsz
  have hzsz : zv.cells.size = sz := by have := (g4 φ).1; simp at this; omega
  subst hs'
  have hrun := run_append_grow_src (P := P) w t tx ty e i' zv hu g1 g2 a len c olds (by rw [hsz']; exact hold) x' k news (by rw [hsz']; exact hsrc) hc (by omega) (growslice_fits hc (by rw [hby]; exact hb))
  have hge := grownCap_ge w (len + k) c e
  have hle := grownCap_le_maxLen w (len + k) c e (by simp only [maxLen]; omega)
  generalize grownCap w (len + k) c e = cap at hrun hge hle
  have hlen : (old ++ xs).length = (len + k) * sz := by rw [List.length_append, hol, hl, Nat.add_mul]
  have hlv : (olds ++ news).length = (len + k) * sz := by rw [List.length_append, ← ho.1, ← hn.1, hol, hl, Nat.add_mul]
  have hzc : (Builtin.zeroCells zv.cells (cap - (len + k))).size = (cap - (len + k)) * sz := by rw [size_zeroCells, hzsz]
  have hsize : ((olds ++ news).toArray ++ Builtin.zeroCells zv.cells (cap - (len + k))).size = cap * sz := by
    rw [Array.size_append, List.size_toArray, hlv, hzc, ← Nat.add_mul]; congr 1; omega
  have hcap : (len + k) * sz ≤ cap * sz := Nat.mul_le_mul_right _ hge
  have := catch_new (hR.snoc ⟨old ++ xs, sz, .opn⟩) (s := H.length) (B := ⟨old ++ xs, sz, .opn⟩) (by simp) hR.unmapped rfl (w1 := w.drew) (fun _ _ => rfl) rfl
    (c := (olds ++ news).toArray ++ Builtin.zeroCells zv.cells (cap - (len + k))) (e := e) (fz := (0, 0)) (vs := olds ++ news) (ho.append hn) (fun a ha => by
      simp only [List.mem_append] at ha; rcases ha with ha | ha; exact ho1 a ha; exact h1 a ha) (fun i v hv => by
      have hi := (List.getElem?_eq_some_iff.1 hv).1
      rw [Array.getElem?_append_left (by simpa using hi)]; simpa using hv) (by rw [hsize]; simp only [hlen]; exact hcap) (fun h => by cases h) (fun i hi => by simp) (Below.refl _ _).drew
  refine ⟨_, _, _, hrun, this.1, .sl H.length 0 (len + k) none _ cap (upd_same ..) ⟨hge, hle, fun _ => ?_⟩, this.2⟩
  simp only [Nat.zero_add]
  exact hsize.symm

theorem run_append_zero {t tx e sz : TypeId} (hT : TOk P T) (hu : P.underlying t = some (.slice e)) (hs : asize T e = some sz) {x' : Value} {news : List Value} (hsrc : Src P sz tx x' 0 news w) (a : Option Addr) (len c : Nat) (hc : len ≤ c) (ty : TypeId) :
    (Builtin.append_ #[t, tx] ty #[.slice a len c, x']).run P w = .ok (.slice a len c) w := by
  have hnil : news = [] := List.eq_nil_of_length_eq_zero (by rw [hsrc.newsLen, Nat.zero_mul])
  subst hnil
  rcases hsrc.kind with ⟨e', hk⟩ | hk <;> cases a <;> simp [Builtin.append_, run_underlying hu, run_underlying hk, asize_run hT hs, hsrc.len, hc, hsrc.cells, storeCells]

theorem aappend_run (hT : TOk P T) (hR : Rel base φ H w) {t tx : TypeId} {s x v : AV} {H' : Heap} (h : aappend T H t tx s x = some (v, H')) {s' x' : Value} (hs : RV φ s s') (hx : RV φ x x') (ty : TypeId) :
    ∃ u w' φ', (Builtin.append_ #[t, tx] ty #[s', x']).run P w = .ok u w' ∧ Rel base φ' H' w' ∧ RV φ' v u ∧ Ext base φ H w φ' H' w' := by
  unfold aappend at h
  split at h
  · rename_i e sz he
    obtain ⟨hu, hesz⟩ := asliceElem_is hT he
    split at h
    · rename_i z d k xs hz hd hsrc
      obtain ⟨i, zv, g1, g2, g3, g4, g5, g6⟩ := azero_is hT hz
      have hzsz : z.length = sz := by rw [g6] at hesz; simpa using hesz
      obtain ⟨news, hS, hn, h1, hl⟩ := asrc_run hT hR hsrc hx
      split at h
      · cases hs
        split at h
        · rename_i hk
          subst hk
          simp only [Option.some.injEq, Prod.mk.injEq] at h
          obtain ⟨rfl, rfl⟩ := h
          exact ⟨_, w, φ, run_append_zero hT hu hesz hS none 0 0 (Nat.le_refl _) ty, hR, .nils, Ext.refl ..⟩
        · rename_i hk
          split at h
          · rename_i hb
            simp only [Option.some.injEq, Prod.mk.injEq] at h
            obtain ⟨rfl, rfl⟩ := h
            obtain ⟨u, w', L, r1, r2, r3, r4⟩ := grow_new (len := 0) (c := 0) (old := []) (olds := []) (a := none) hT hR hu hz hd hzsz hS hn h1 hl (run_firstCells_none w.drew sz 0 0 0) (RVs.nil φ) (by simp) (by simp) rfl (by omega) (by rw [Nat.zero_add]; exact hb.1) (by rw [Nat.zero_add]; exact hb.2) ty
            rw [Nat.zero_add] at r3
            exact ⟨u, w', _, r1, r2, r3, fun b hb => upd_other _ _ (by omega), by simp, r4, fun _ _ h => h, fun _ _ h => .inl h⟩
          · cases h
      · cases hs
        split at h
        · rename_i a c hk
          subst hk
          simp only [Option.some.injEq, Prod.mk.injEq] at h
          obtain ⟨rfl, rfl⟩ := h
          exact ⟨_, w, φ, run_append_zero hT hu hesz hS (some a) 0 c (Nat.zero_le _) ty, hR, .emp a c, Ext.refl ..⟩
        · cases h
      · cases hs
        rename_i a
        split at h
        · rename_i hk
          subst hk
          simp only [Option.some.injEq, Prod.mk.injEq] at h
          obtain ⟨rfl, rfl⟩ := h
          exact ⟨_, w, φ, run_append_zero hT hu hesz hS a 0 0 (Nat.le_refl _) ty, hR, .nul a, Ext.refl ..⟩
        · rename_i hk
          split at h
          · rename_i hb
            simp only [Option.some.injEq, Prod.mk.injEq] at h
            obtain ⟨rfl, rfl⟩ := h
            have hfc : (Builtin.firstCells sz 0 (.slice a 0 0)).run P w.drew = .ok ([] : List Value).toArray w.drew := by
              cases a with
              | none => exact run_firstCells_none w.drew sz 0 0 0
              | some a => exact run_firstCells_some w.drew sz 0 a 0 0 [] (by simp) (fun j u hj => by simp at hj)
            obtain ⟨u, w', L, r1, r2, r3, r4⟩ := grow_new (len := 0) (c := 0) (old := []) (olds := []) (a := a) hT hR hu hz hd hzsz hS hn h1 hl hfc (RVs.nil φ) (by simp) (by simp) rfl (by omega) (by rw [Nat.zero_add]; exact hb.1) (by rw [Nat.zero_add]; exact hb.2) ty
            rw [Nat.zero_add] at r3
            exact ⟨u, w', _, r1, r2, r3, fun b hb => upd_other _ _ (by omega), by simp, r4, fun _ _ h => h, fun _ _ h => .inl h⟩
          · cases h
      · rename_i b o len cap
        cases hs
        rename_i L c hL hcap
        split at h
        · rename_i hk
          subst hk
          simp only [Option.some.injEq, Prod.mk.injEq] at h
          obtain ⟨rfl, rfl⟩ := h
          exact ⟨_, w, φ, run_append_zero hT hu hesz hS _ len c hcap.1 ty, hR, .sl b o len cap L c hL hcap, Ext.refl ..⟩
        · rename_i hk0
          split at h
          · rename_i B hB
            have hrel := hR.blk b B L hB hL
            split at h
            · rename_i hroom
              simp only [Option.some.injEq, Prod.mk.injEq] at h
              obtain ⟨rfl, rfl⟩ := h
              simp only [roomFor, Bool.and_eq_true, decide_eq_true_eq] at hroom
              obtain ⟨⟨⟨⟨k1, k2⟩, hsz0⟩, k3⟩, k4⟩ := hroom
              obtain ⟨j1, j2, j3, ca, ec, fz, j4, j5, j6, j7, j8, j9⟩ := (BlkRel.own_iff k1).1 hrel
              obtain ⟨hbase, hcell⟩ := own_cells hR hB hL k1
              have hroomc : len + k ≤ c := by
                obtain ⟨c1, c2, c3⟩ := hcap
                cases cap with
                | some q => simp only [decide_eq_true_eq] at k4 c3; omega
                | none =>
                  have := c3 j1
                  rw [j3, k2] at this
                  have : (len + k) * sz ≤ c * sz := by omega
                  exact Nat.le_of_mul_le_mul_right this hsz0
              have hnl : news.length = k * sz := hn.1.symm.trans hl
              have hmul : (len + k) * sz = len * sz + k * sz := Nat.add_mul ..
              have hi : i.size = sz := g3.trans hzsz
              have hrun := run_append_room_src (P := P) w t tx ty e i hu g1 L.r (L.o + o) len c x' k news (by rw [hi]; exact hS) hroomc (fun j hj => by
                  have := (hcell (o + len * sz + j) (by omega)).1
                  rw [hi]
                  rwa [show L.o + o + len * sz + j = L.o + (o + len * sz + j) by omega]) (fun j hj => by
                  have := (hcell (o + len * sz + j) (by omega)).2
                  rw [hi]
                  rwa [show L.o + o + len * sz + j = L.o + (o + len * sz + j) by omega])
              rw [hi] at hrun
              have hwr := hR.write hB hL k1 (o := o + len * sz) hn h1 (by omega)
              rw [← Nat.add_assoc] at hwr
              refine ⟨_, _, φ, hrun, hwr, .sl b o (len + k) cap L c hL ⟨hroomc, hcap.2.1, hcap.2.2⟩, fun _ _ => rfl, by simp, setCells_below _ _ _ hbase _ _, fun _ _ h => h, fun _ _ h => .inl h⟩
            · rename_i hroom
              split at h
              · rename_i hb
                obtain ⟨hb1, hb2, hsz0⟩ := hb
                split at h
                · rename_i old hread
                  obtain ⟨o1, olds, o2, o3, o4⟩ := hR.read hread hL
                  have hol : old.length = len * sz := read_length hread
                  have hfc : (Builtin.firstCells sz len (.slice (some ⟨L.r, L.o + o, none⟩) len c)).run P w.drew = .ok olds.toArray w.drew :=
                    run_firstCells_some w.drew sz len _ len c olds (o2.1.symm.trans hol) (fun j u hj => by rw [addr_add]; simpa using o3 j u hj)
                  split at h
                  · rename_i hno
                    simp only [Option.some.injEq, Prod.mk.injEq] at h
                    obtain ⟨rfl, rfl⟩ := h
                    have hclt : c < len + k := by
                      obtain ⟨c1, c2, c3⟩ := hcap
                      unfold noRoomFor at hno
                      cases cap with
                      | some q => simp only [decide_eq_true_eq] at hno c3; omega
                      | none =>
                        cases hst : B.st <;> rw [hst] at hno <;> simp only [Bool.false_eq_true, Bool.and_eq_true, decide_eq_true_eq] at hno
                        have ho : B.st.own = true := by rw [hst]; rfl
                        obtain ⟨j1, j2, j3, ca, ec, fz, j4, j5, j6, j7, _⟩ := (BlkRel.own_iff ho).1 hrel
                        have e1 := c3 j1
                        have e2 := j7 hst
                        rw [j3, hno.1] at e1
                        have : c * sz < (len + k) * sz := by omega
                        exact Nat.lt_of_mul_lt_mul_right this
                    obtain ⟨u, w', L', r1, r2, r3, r4⟩ := grow_new (old := old) (olds := olds) hT hR hu hz hd hzsz hS hn h1 hl hfc o2 o1 hol rfl hclt hb1 hb2 ty
                    exact ⟨u, w', _, r1, r2, r3, fun b hb => upd_other _ _ (by omega), by simp, r4, fun _ _ h => h, fun _ _ h => .inl h⟩
                  · split at h
                    · rename_i hq
                      obtain ⟨k1, k2, rfl⟩ := hq
                      simp only [Option.some.injEq, Prod.mk.injEq] at h
                      obtain ⟨rfl, rfl⟩ := h
                      have hkill := hR.kill b ⟨B.cells, B.esz, .dead⟩ rfl
                      have hlen : (H.set b ⟨B.cells, B.esz, .dead⟩).length = H.length := by simp
                      by_cases hroomc : len + k ≤ c
                      · obtain ⟨j1, j2, j3, ca, ec, fz, j4, j5, j6, j7, j8, j9⟩ := (BlkRel.own_iff k1).1 hrel
                        have hcc := hcap.2.2 j1
                        rw [j3, k2] at hcc
                        have hnl : news.length = k * sz := hn.1.symm.trans hl
                        have hmul : (len + k) * sz = len * sz + k * sz := Nat.add_mul ..
                        have hmul2 : (len + k) * sz ≤ c * sz := Nat.mul_le_mul_right _ hroomc
                        have hi : i.size = sz := g3.trans hzsz
                        have hrun := run_append_room_src (P := P) w t tx ty e i hu g1 L.r (L.o + o) len c x' k news (by rw [hi]; exact hS) hroomc (fun j hj => by
                            rw [hi]
                            simp only [World.cell?, j4]
                            rw [Array.getElem?_eq_getElem (show L.o + o + len * sz + j < ca.size by omega)]; rfl) (fun j hj => by
                            rw [hi]
                            have := j8 (L.o + o + len * sz + j) (by omega)
                            simp only [World.frozen?, j4, Bool.and_eq_false_iff, decide_eq_false_iff_not]; omega)
                        rw [hi] at hrun
                        have hne : ∀ (c : Nat) (C : Blk) M, (H.set b ⟨B.cells, B.esz, .dead⟩ ++ [⟨old ++ xs, sz, .opn⟩])[c]? = some C → C.st.own = true → φ c = some M → M.r ≠ L.r := fun q C M hC ho hM heq => by
                          have hq := hR.dom q M hM
                          rw [List.getElem?_append_left (by rw [hlen]; exact hq), List.getElem?_set] at hC
                          split at hC
                          · split at hC
                            · simp only [Option.some.injEq] at hC; subst hC; cases ho
                            · cases hC
                          · rename_i hbq
                            exact hbq (hR.inj q b C B M L hC hB ho k1 hM hL heq).symm
                        have := (hkill.snoc ⟨old ++ xs, sz, .opn⟩).catch2 (s := H.length) (B := ⟨old ++ xs, sz, .opn⟩) (L := ⟨L.r, L.o + o, L.size - o, sz, true⟩) (w' := w.setCells L.r (L.o + o + len * sz) news)
                          (by rw [List.getElem?_append_right (by simp)]; simp) hR.unmapped rfl (fun k _ hne => setCells_other _ _ _ _ _ hne) hne j2 (by rw [setCells_size]; exact Nat.le_refl _) (fun r z hz => hR.fzSep r z b B L hz hB k1 hL)
                          ((BlkRel.own_iff rfl).2 ⟨rfl, j2, rfl, _, ec, fz, setCells_heap _ _ _ _ _ _ _ j4, by rw [arrWr_size]; simp only; omega, by simp only [List.length_append]; omega, fun h => by (cases h), fun q hq => j8 q (by rw [arrWr_size] at hq; exact hq), fun q a ha => by
                            have hon : RVs φ (old ++ xs) (olds ++ news) := o2.append hn
                            obtain ⟨v, hv, hr⟩ := hon.getD q ha
                            refine ⟨?_, v, ?_, hr.mono (upd_sub _ hR.unmapped)⟩
                            · have := List.mem_of_getElem? ha
                              simp only [List.mem_append] at this
                              rcases this with h | h
                              · exact o1 a h
                              · exact h1 a h
                            · have e1 : (arrWr ca (L.o + o + len * sz) news)[L.o + o + q]? = (wrV ca.toList (L.o + o + len * sz) news)[L.o + o + q]? := by rw [← arrWr_toList]; simp
                              simp only
                              rw [e1, wrV_getElem? _ _ _ (by simp; omega)]
                              rw [List.getElem?_append] at hv
                              have hol2 : olds.length = len * sz := o2.1.symm.trans hol
                              split at hv
                              · rename_i hq
                                rw [if_neg (by omega)]
                                have := o3 q v hv
                                simp only [World.cell?, j4] at this
                                simpa using this
                              · rename_i hq
                                have hq2 : q - olds.length < news.length := (List.getElem?_eq_some_iff.1 hv).1
                                rw [if_pos (by omega), show L.o + o + q - (L.o + o + len * sz) = q - olds.length by omega]
                                exact hv⟩)
                        refine ⟨_, _, _, hrun, this (fun es clk h => by rw [show w.heap[L.r]? = _ from j4] at h; cases h), .sl H.length 0 (len + k) none _ c (upd_same ..) ⟨hroomc, hcap.2.1, fun _ => ?_⟩, fun q hq => upd_other _ _ (by omega), by simp, setCells_below _ _ _ j2 _ _, fun _ _ h => h, fun _ _ h => .inl h⟩
                        simp only; omega
                      · have hclt : c < len + k := by omega
                        obtain ⟨u, w', L', r1, r2, r3, r4⟩ := grow_new (old := old) (olds := olds) hT hkill hu hz hd hzsz hS hn h1 hl hfc o2 o1 hol rfl hclt hb1 hb2 ty
                        rw [hlen] at r2 r3
                        exact ⟨u, w', _, r1, r2, r3, fun b hb => upd_other _ _ (by omega), by simp, r4, fun _ _ h => h, fun _ _ h => .inl h⟩
                    · cases h
                · cases h
              · cases h
          · cases h
      · cases h
    · cases h
  · cases h
end
end Go.Proofs.PI

