import Derived.Test.YtkmkhiipiflelaaPiY
/-! PI, part Ya: an own slice is frozen where it lies. -/
set_option linter.unusedVariables false
set_option linter.unusedSimpArgs false
namespace Go.Proofs.PI
open Go.RowKit
section
variable {P : Program} {H : Heap} {base : Nat} {φ : Ph} {w : World}
/-- G is H, but v's block is not written any more. -/
structure Fz (H : Heap) (v : AV) (G : Heap) : Prop where
  len : G.length = H.length
  other : ∀ b, v.blk ≠ some b → G[b]? = H[b]?
  here : ∀ b B, v.blk = some b → H[b]? = some B → G[b]? = some ⟨B.cells, B.esz, .ro⟩
theorem Own.fz {H : Heap} {m sz : Nat} {v : AV} {cs : List AV} (hv : Own m H v sz cs) : ∃ G, Fz H v G := by
  rcases hv with ⟨rfl, rfl⟩ | ⟨b, n', st, rest, rfl, hm, hB, hst, hn'⟩
  · exact ⟨H, rfl, fun _ _ => rfl, fun b B h => by cases h⟩
  · have hbl : b < H.length := (List.getElem?_eq_some_iff.1 hB).1
    exact ⟨List.set H b ⟨cs ++ rest, sz, .ro⟩, by simp, fun c hc => List.getElem?_set_ne fun e => hc (by rw [e]; rfl), fun c C hc hC => by
      simp only [AV.blk, Option.some.injEq] at hc; subst hc
      rw [hB] at hC; simp only [Option.some.injEq] at hC; subst hC
      exact List.getElem?_set_self hbl⟩
theorem Fz.keep {H G : Heap} {v : AV} (h : Fz H v G) : Keep v.blk H G := ⟨by rw [h.len]; exact Nat.le_refl _, fun b _ hb => h.other b hb⟩
theorem Fz.vs {H G : Heap} {v x : AV} {sz n : Nat} {cs : List AV} (h : Fz H v G) (hx : Vs H x sz n cs) : Vs G x sz n cs := by
  refine ⟨hx.1, ?_⟩
  rcases hx.2 with h1 | h1 | ⟨b, o, cap, B, rfl, h1, h2, h3, h4, h5, h6⟩
  · exact .inl h1
  · exact .inr (.inl h1)
  · by_cases e : v.blk = some b
    · exact .inr (.inr ⟨b, o, cap, _, rfl, h1, h.here b B e h2, rfl, fun _ => h4 h3, h5, h6⟩)
    · exact .inr (.inr ⟨b, o, cap, B, rfl, h1, by rw [h.other b e]; exact h2, h3, h4, h5, h6⟩)
theorem Rel.freeze {m sz n : Nat} {v : AV} {cs : List AV} (hR : Rel base φ H w) (hv : Own m H v sz cs) (hf : ∀ a ∈ cs, a.flat = true) (hn : cs.length = n * sz) (hsz : 0 < sz) :
    ∃ (ψ : Ph) (G : Heap), φ.le ψ ∧ ψ.loc = φ.loc ∧ Fz H v G ∧ Rel base ψ G w ∧ (∀ u, RV ψ v u → RV ψ (.lst n cs) u) ∧ ∀ r z, ψ.fz r = some z → φ.fz r = some z ∨ base ≤ r := by
  rcases hv with ⟨rfl, rfl⟩ | ⟨b, n', st, rest, rfl, hm, hB, hst, hn'⟩
  · have h0 : n = 0 := by
      cases n with
      | zero => rfl
      | succ k => rw [Nat.succ_mul] at hn; simp at hn; omega
    subst h0
    exact ⟨φ, H, Ph.le.refl φ, rfl, ⟨rfl, fun _ _ => rfl, fun b B h => by cases h⟩, hR, fun u h => by cases h; exact .lst0n, fun _ _ h => .inl h⟩
  have hnn : n = n' := Nat.eq_of_mul_eq_mul_right hsz (hn.symm.trans hn')
  subst hnn
  have hbl : b < H.length := (List.getElem?_eq_some_iff.1 hB).1
  have hfz : Fz H (.sl b 0 n none) (List.set H b ⟨cs ++ rest, sz, .ro⟩) := ⟨by simp, fun c hc => List.getElem?_set_ne fun e => hc (by rw [e]; rfl), fun c C hc hC => by
    simp only [AV.blk, Option.some.injEq] at hc; subst hc
    rw [hB] at hC; simp only [Option.some.injEq] at hC; subst hC
    exact List.getElem?_set_self hbl⟩
  cases hL : φ b with
  | none =>
    have hget : ∀ c C, (List.set H b ⟨cs ++ rest, sz, .ro⟩ : Heap)[c]? = some C → c = b ∨ H[c]? = some C := fun c C hC => by
      by_cases e : b = c
      · exact .inl e.symm
      · rw [List.getElem?_set_ne e] at hC; exact .inr hC
    have hR1 : Rel base φ (List.set H b ⟨cs ++ rest, sz, .ro⟩) w := by
      refine ⟨fun c C M hC hM => ?_, fun c d C D M N hC hD h1 h2 hM hN hr => ?_, fun c M hM => by rw [List.length_set]; exact hR.dom c M hM, hR.size, hR.fzOk, fun r z c C M hz hC ho' hM => ?_⟩
      · rcases hget c C hC with rfl | h
        · rw [hL] at hM; cases hM
        · exact hR.blk c C M h hM
      · rcases hget c C hC with rfl | h
        · rw [hL] at hM; cases hM
        · rcases hget d D hD with rfl | h'
          · rw [hL] at hN; cases hN
          · exact hR.inj c d C D M N h h' h1 h2 hM hN hr
      · rcases hget c C hC with rfl | h
        · rw [hL] at hM; cases hM
        · exact hR.fzSep r z c C M hz h ho' hM
    refine ⟨φ, _, Ph.le.refl φ, rfl, hfz, hR1, fun u h => ?_, fun _ _ h => .inl h⟩
    cases h; rename_i L c hL' _; rw [hL] at hL'; cases hL'
  | some L =>
    have hrel := (BlkRel.own_iff hst).1 (hR.blk b _ L hB hL)
    obtain ⟨g1, g2, g3, cc, e, fz, g4, g5, g6, g7, g8, g9⟩ := hrel
    have hno : φ.fz L.r = none := by
      cases hz : φ.fz L.r with
      | none => rfl
      | some z => exact absurd rfl (hR.fzSep L.r z b _ L hz hB hst hL)
    have hsub : ∀ r z, φ.fz r = some z → (fzAdd φ L.r cc.toList).fz r = some z := fun r z hz => by
      simp only [fzAdd]
      by_cases e : r = L.r
      · rw [e, hno] at hz; cases hz
      · rw [if_neg e]; exact hz
    have hle : φ.le (fzAdd φ L.r cc.toList) := ⟨fun _ _ h => h, hsub⟩
    have hget : ∀ c C, (List.set H b ⟨cs ++ rest, sz, .ro⟩ : Heap)[c]? = some C → C.st.own = true → c ≠ b ∧ H[c]? = some C := fun c C hC hst => by
      by_cases e : b = c
      · subst e
        rw [List.getElem?_set_self hbl] at hC
        simp only [Option.some.injEq] at hC; subst hC; cases hst
      · rw [List.getElem?_set_ne e] at hC; exact ⟨fun h => e h.symm, hC⟩
    refine ⟨fzAdd φ L.r cc.toList, List.set H b ⟨cs ++ rest, sz, .ro⟩, hle, rfl, hfz, ?_, fun u h => ?_, fun r z hz => ?_⟩
    · refine ⟨fun c C M hC hM => ?_, fun c d C D M N hC hD h1 h2 hM hN hr => ?_, fun c M hM => by rw [List.length_set]; exact hR.dom c M hM, hR.size, fun r z hz => ?_, fun r z c C M hz hC ho' hM => ?_⟩
      · by_cases e : b = c
        · subst e
          rw [List.getElem?_set_self hbl] at hC
          simp only [Option.some.injEq] at hC; subst hC
          have hM' : φ b = some M := hM
          rw [hL] at hM'; simp only [Option.some.injEq] at hM'; subst hM'
          refine ⟨.inr ⟨g3, cc.toList, by simp [fzAdd]⟩, trivial, fun i a ha => ?_⟩
          obtain ⟨j1, u, j2, j3⟩ := g9 i a ha
          exact ⟨j1, u, by simp only [World.cell?, g4]; exact j2, j3.mono hle⟩
        · rw [List.getElem?_set_ne e] at hC
          exact (hR.blk c C M hC hM).mono hle fun _ _ => rfl
      · exact hR.inj c d C D M N (hget c C hC h1).2 (hget d D hD h2).2 h1 h2 hM hN hr
      · simp only [fzAdd] at hz
        split at hz
        · rename_i e; subst e
          simp only [Option.some.injEq] at hz; subst hz
          refine ⟨(Array.getElem?_eq_some_iff.1 g4).1, fun i u hu => ?_⟩
          simp only [World.cell?, g4]
          simpa using hu
        · exact hR.fzOk r z hz
      · obtain ⟨q1, q2⟩ := hget c C hC ho'
        simp only [fzAdd] at hz
        split at hz
        · rename_i e; subst e
          intro heq
          exact q1 (hR.inj c b C _ M L q2 hB ho' hst hM hL heq)
        · exact hR.fzSep r z c C M hz q2 ho' hM
    · cases h
      rename_i L' c hL' hcap
      have hLe : L = L' := by have : φ b = some L' := hL'; rw [hL] at this; exact Option.some.inj this
      subst hLe
      have hlen : cs.length ≤ (cs ++ rest).length := by simp
      simp only at g6 g9
      refine .lst n cs L.r (L.o + 0) c cc.toList (by simp [fzAdd]) ⟨hcap.1, hcap.2.1⟩ (by simp only [Array.length_toList]; omega) (fun a ha => AV.flat_one (hf a ha)) fun i a v hai hvi => ?_
      have hi := (List.getElem?_eq_some_iff.1 hai).1
      obtain ⟨_, u, q1, q2⟩ := g9 i a (by rw [List.getElem?_append_left hi]; exact hai)
      have : cc[L.o + i]? = some v := by rw [Array.getElem?_toList] at hvi; simpa using hvi
      rw [this] at q1; cases q1
      exact q2.flat_bare (hf a (List.mem_of_getElem? hai)) hsub
    · simp only [fzAdd] at hz
      split at hz
      · rename_i e; subst e; exact .inr g2
      · exact .inl hz
theorem Rel.conv {ψ : Ph} {G : Heap} (hR : Rel base ψ G w) {q : Nat} {D C : Blk} (hq : G[q]? = some D) (h1 : C.st = D.st) (h2 : C.esz = D.esz) (hc : All2 (fun a c => ∀ u, a.one = true → RV ψ a u → c.one = true ∧ RV ψ c u) D.cells C.cells) :
    Rel base ψ (List.set G q C) w := by
  have hql : q < G.length := (List.getElem?_eq_some_iff.1 hq).1
  have hlen : D.cells.length = C.cells.length := All2.length hc
  have hcell : ∀ (i : Nat) c, C.cells[i]? = some c → ∃ a, D.cells[i]? = some a ∧ ∀ u, a.one = true → RV ψ a u → c.one = true ∧ RV ψ c u := fun i c hci => by
    obtain ⟨hi, rfl⟩ := List.getElem?_eq_some_iff.1 hci
    exact ⟨_, List.getElem?_eq_getElem (by rw [hlen]; exact hi), All2.get hc i (by rw [hlen]; exact hi) hi⟩
  have hget : ∀ (c : Nat) (X : Blk), (List.set G q C : Heap)[c]? = some X → ∃ Y : Blk, G[c]? = some Y ∧ Y.st = X.st := fun c X hX => by
    by_cases e : q = c
    · subst e
      rw [List.getElem?_set_self hql] at hX
      simp only [Option.some.injEq] at hX; subst hX; exact ⟨D, hq, h1.symm⟩
    · rw [List.getElem?_set_ne e] at hX; exact ⟨X, hX, rfl⟩
  refine ⟨fun c X M hX hM => ?_, fun c d X Y M N hX hY e1 e2 hM hN hr => ?_, fun c M hM => by rw [List.length_set]; exact hR.dom c M hM, hR.size, hR.fzOk, fun r z c X M hz hX ho hM => ?_⟩
  · by_cases e : q = c
    · subst e
      rw [List.getElem?_set_self hql] at hX
      simp only [Option.some.injEq] at hX; subst hX
      have r := hR.blk q D M hq hM
      unfold BlkRel at r ⊢
      rw [h1]
      cases hst : D.st <;> rw [hst] at r <;> simp only at r ⊢
      · refine ⟨by rw [h2]; exact r.1, r.2.1, fun i c hc => ?_⟩
        obtain ⟨a, ha, hm⟩ := hcell i c hc
        obtain ⟨g1, v, g2, g3⟩ := r.2.2 i a ha
        exact ⟨(hm v g1 g3).1, v, g2, (hm v g1 g3).2⟩
      rotate_left 2
      · obtain ⟨g1, es, clk, g2, g3, g4⟩ := r
        refine ⟨g1, es, clk, g2, g3.trans hlen, fun i c hc => ?_⟩
        obtain ⟨a, ha, hm⟩ := hcell i c hc
        obtain ⟨s, born, rfl, hs⟩ := g4 i a ha
        refine ⟨s, born, ?_, hs⟩
        obtain ⟨k1, k2⟩ := hm (.string ⟨s.toArray⟩) rfl (.str s)
        generalize hv : Value.string ⟨s.toArray⟩ = v at k2
        cases k2 <;> cases hv
        · rfl
        · cases k1
      all_goals
        obtain ⟨g1, g2, g3, cc, e, fz, g4, g5, g6, g7, g8⟩ := r
        refine ⟨g1, g2, by rw [h2]; exact g3, cc, e, fz, g4, g5, by rw [← hlen]; exact g6, g7, fun i c hc => ?_⟩
        obtain ⟨a, ha, hm⟩ := hcell i c hc
        obtain ⟨j1, v, j2, j3⟩ := g8 i a ha
        exact ⟨(hm v j1 j3).1, v, j2, (hm v j1 j3).2⟩
    · rw [List.getElem?_set_ne e] at hX
      exact hR.blk c X M hX hM
  · obtain ⟨X', q1, q2⟩ := hget c X hX
    obtain ⟨Y', q3, q4⟩ := hget d Y hY
    exact hR.inj c d X' Y' M N q1 q3 (by rw [q2]; exact e1) (by rw [q4]; exact e2) hM hN hr
  · obtain ⟨X', q1, q2⟩ := hget c X hX
    exact hR.fzSep r z c X' M hz q1 (by rw [q2]; exact ho) hM
/-- An own slice that lies in block q is frozen there. -/
theorem WX_freeze {nn : Nat} {c : Code} {fr : Fr} {Q : Exit → Fr → Heap → Prop} {m sz n : Nat} {v : AV} {cs : List AV} (hv : Own m H v sz cs) (hf : ∀ a ∈ cs, a.flat = true) (hn : cs.length = n * sz) (hsz : 0 < sz)
    {q : Nat} {D C : Blk} (hq : H[q]? = some D) (hne : v.blk ≠ some q) (h1 : C.st = D.st) (h2 : C.esz = D.esz) (hc : All2 (fun a c => a = c ∨ (a = v ∧ c = .lst n cs)) D.cells C.cells)
    (h : ∀ G : Heap, G.length = H.length → G[q]? = some C → (∀ b, v.blk ≠ some b → b ≠ q → G[b]? = H[b]?) → WX P nn c fr G Q) : WX P nn c fr H Q := by
  intro base φ w a hR hfr
  obtain ⟨ψ, G, k1, k2, kf, k5, k6, k7⟩ := hR.freeze hv hf hn hsz
  have k3 := kf.len
  have k4 := kf.other
  have hqG : G[q]? = some D := by rw [k4 q hne]; exact hq
  have hql : q < G.length := (List.getElem?_eq_some_iff.1 hqG).1
  have hR2 := k5.conv hqG h1 h2 (hc.mono fun a c hac u ha hu => by
    rcases hac with rfl | ⟨rfl, rfl⟩
    · exact ⟨ha, hu⟩
    · exact ⟨rfl, k6 u hu⟩)
  refine Code.wp_mono ?_ (h (List.set G q C) (by simp [k3]) (List.getElem?_set_self hql) (fun b hb hbq => by rw [List.getElem?_set_ne (fun e => hbq e.symm)]; exact k4 b hb) base ψ w a hR2 (hfr.mono k1))
  rintro e a' w' ⟨fr', H', χ, r1, r2, r3, r4⟩
  refine ⟨fr', H', χ, r1, r2, ⟨fun b hb => ?_, by have := r3.len; simpa [k3] using this, r3.below, fun r z hz => r3.fz r z (k1.fz r z hz), fun r z hz => ?_⟩, r4⟩
  · rw [r3.keep b (by simp [k3]; exact hb), k2]
  · rcases r3.fzn r z hz with h | h
    · exact k7 r z h
    · exact .inr h
/-- The value c instead of v. -/
inductive FrzR (v c : AV) : AV → AV → Prop
  | same (a : AV) : FrzR v c a a
  | here : FrzR v c v c
  | agg (l l' : List AV) (hl : l.length = l'.length) (h : ∀ (i : Nat) a b, l[i]? = some a → l'[i]? = some b → FrzR v c a b) : FrzR v c (.agg l) (.agg l')
theorem FrzR.row {v c : AV} : ∀ {l l' : List AV}, All2 (FrzR v c) l l' → l.length = l'.length ∧ ∀ (i : Nat) a b, l[i]? = some a → l'[i]? = some b → FrzR v c a b
  | [], [], _ => ⟨rfl, fun i a c h => by simp at h⟩
  | a :: l, b :: l', h => by
    obtain ⟨h1, h2⟩ := FrzR.row h.2
    refine ⟨by simp [h1], fun i x y hx hy => ?_⟩
    cases i with
    | zero => simp at hx hy; subst hx; subst hy; exact h.1
    | succ i => exact h2 i x y (by simpa using hx) (by simpa using hy)
theorem FrzR.agg_row {v c : AV} {l l' : List AV} (h : All2 (FrzR v c) l l') : FrzR v c (.agg l) (.agg l') := .agg l l' (FrzR.row h).1 (FrzR.row h).2
theorem FrzR.rv {ψ : Ph} {v c : AV} (hvc : ∀ u, RV ψ v u → RV ψ c u) {a b : AV} (h : FrzR v c a b) : ∀ u, RV ψ a u → RV ψ b u := by
  induction h with
  | same a => exact fun u h => h
  | here => exact hvc
  | agg l l' hl h ih =>
    intro u hu
    obtain ⟨us, rfl, hs⟩ := RV.agg_iff.1 hu
    refine .agg l' us (by rw [← hl]; have := hs.1; simpa using this) fun i b u hb hu => ?_
    have hi : i < l.length := by rw [hl]; exact (List.getElem?_eq_some_iff.1 hb).1
    exact ih i l[i] b (List.getElem?_eq_getElem hi) hb _ (hs.2 i _ u (List.getElem?_eq_getElem hi) (by simpa using hu))
/-- An own slice is frozen, and handed to a call. -/
theorem WC_freeze {f : FuncId} {args args' : List AV} {K : AV → Heap → Prop} {m sz n : Nat} {v : AV} {cs : List AV} (hv : Own m H v sz cs) (hf : ∀ a ∈ cs, a.flat = true) (hn : cs.length = n * sz) (hsz : 0 < sz)
    (ha : All2 (FrzR v (.lst n cs)) args args') (h : ∀ G : Heap, Fz H v G → WC P f args' G K) : WC P f args H K := by
  obtain ⟨G0, hG0⟩ := hv.fz
  refine ⟨(h G0 hG0).1, fun base φ w vs hR hvs => ?_⟩
  obtain ⟨ψ, G, k1, k2, kf, k5, k6, k7⟩ := hR.freeze hv hf hn hsz
  have k3 := kf.len
  have k4 := kf.other
  have hr := FrzR.row ha
  have hvs' : RVs ψ args' vs := ⟨by rw [← hr.1]; exact hvs.1, fun i c u hc hui => by
    have hi : i < args.length := by rw [hr.1]; exact (List.getElem?_eq_some_iff.1 hc).1
    exact (hr.2 i args[i] c (List.getElem?_eq_getElem hi) hc).rv k6 u ((hvs.2 i _ u (List.getElem?_eq_getElem hi) hui).mono k1)⟩
  refine ((h G kf).2 base ψ w vs k5 hvs').mono ?_
  rintro e w' ⟨u, r, H', χ, rfl, r1, r2, r3, r4⟩
  refine ⟨u, r, H', χ, rfl, r1, r2, ⟨fun b hb => by rw [r3.keep b (by rw [k3]; exact hb), k2], by have := r3.len; rw [k3] at this; exact this, r3.below, fun r z hz => r3.fz r z (k1.fz r z hz), fun r z hz => ?_⟩, r4⟩
  rcases r3.fzn r z hz with h | h
  · exact k7 r z h
  · exact .inr h

theorem WC_freezeE {α : Type} {E : Enc α} {f : FuncId} {args : List AV} (args' : List AV) {K : AV → Heap → Prop} {m : Nat} {v : AV} {xs : List α} (ov : OwnE E m H v xs) (hsz : 0 < E.sz)
    (ha : All2 (FrzR v (E.lst xs)) args args') (h : ∀ G : Heap, Fz H v G → WC P f args' G K) : WC P f args H K :=
  WC_freeze (n := xs.length) ov (Enc.row_flat xs) (Enc.row_length xs) hsz ha h
/-! ### Memory that begins as known -/
section
variable {L : List Blk} {G : Heap} (h : Keep none (H ++ L : Heap) G)
include h
end
end
end Go.Proofs.PI

