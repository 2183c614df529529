import Derived.Test.YtccfhighlpfdmaaTrkB2
set_option linter.unusedSimpArgs false
set_option linter.unusedVariables false
set_option maxRecDepth 100000
set_option maxHeartbeats 4000000
namespace Go.Proofs.Ytccfhighlpfdmaa
open Go Go.Proofs Go.Proofs.PI
theorem u8_wfi {v : Int} (h : (Lit.int .u8 v).wf = true) : 0 ≤ v ∧ v < 256 := by
  obtain ⟨b, rfl⟩ := u8_wf h
  have := b.toNat_lt; omega
theorem u32_wfi {v : Int} (h : (Lit.int .u32 v).wf = true) : 0 ≤ v ∧ v < 4294967296 := by
  simp [Lit.wf, IntKind.min, IntKind.max, IntKind.signed, IntKind.bits] at h; omega
theorem change_spec (l : List Tk) (cs : List Chg) (hn : l.length ≤ 140737488355328) (hns : ∀ t ∈ l, t.ns.length ≤ 140737488355328) (hcn : cs.length ≤ 140737488355328) (hok : ∀ c ∈ cs, c.Ok) (H : Heap) :
    WC Try.prog 12 [trAv l, chgE.lst cs] H fun r H' => r = .tup [trAv (trChg l cs).1.1, puE.lst (trChg l cs).1.2, .int .i64 (trChg l cs).2] ∧ H' = H :=
  WC_val fun K hK => (change_own l cs hn hns hcn hok H).mono fun r H' ⟨⟨v, pv, e, o, op⟩, k⟩ => hK r H' (by subst e; exact Thaw.tup_row ⟨Thaw.agg_row ⟨o.thaw, trivial⟩, op.thaw (by decide), .int _ _, trivial⟩) k
/-! ### plain: what Change does -/
def hitB (cs : List Chg) (n : Nm) : Bool := cs.any fun c => tkHit c n
def finL (l : List Tk) (cs : List Chg) : List Tk := l.map fun t => ⟨t.on, t.ns.filter fun n => !hitB cs n⟩
theorem hitB_step {cs : List Chg} {k : Nat} (h : k < cs.length) (n : Nm) : hitB (cs.take (k + 1)) n = (hitB (cs.take k) n || tkHit cs[k] n) := by
  unfold hitB; rw [List.take_succ_eq_append_getElem h, List.any_append]; simp
theorem runS_fst (cs : List Chg) : ∀ s : List Tk × List Pu, (runS s cs).1 = finL s.1 cs := by
  induction cs with
  | nil =>
    intro s
    show s.1 = s.1.map fun t => (⟨t.on, t.ns.filter fun n => !hitB [] n⟩ : Tk)
    have : (fun t : Tk => (⟨t.on, t.ns.filter fun n => !hitB [] n⟩ : Tk)) = id := by
      funext t
      have : t.ns.filter (fun n => !hitB [] n) = t.ns := by rw [List.filter_eq_self]; intro a _; rfl
      rw [this]; rfl
    rw [this, List.map_id]
  | cons c cs ih =>
    intro s
    show (runS (stepT c s.1, s.2 ++ stepP c s.1 s.1.length) cs).1 = _
    rw [ih]
    unfold finL stepT
    rw [List.map_map]
    congr 1
    funext t
    show (⟨t.on, (t.ns.filter fun n => !tkHit c n).filter fun n => !hitB cs n⟩ : Tk) = _
    rw [List.filter_filter]
    congr 1
    congr 1
    funext n
    unfold hitB
    rw [List.any_cons, Bool.not_or, Bool.and_comm]
theorem finL_may {l : List Tk} (h : trMay l) (cs : List Chg) : trMay (finL l cs) := by
  refine ⟨by unfold finL; rw [List.length_map]; exact h.1, by unfold finL; rw [List.length_map]; exact h.2.1, fun t ht => ?_⟩
  obtain ⟨u, hu, rfl⟩ := List.mem_map.1 ht
  obtain ⟨⟨h1, h2⟩, h3, h4⟩ := h.2.2 u hu
  refine ⟨⟨h1.imp id fun e => ?_, Nat.le_trans (List.length_filter_le _ _) h2⟩, fun n hn => h3 n (List.mem_filter.1 hn).1, h4.filter _⟩
  show List.filter _ u.ns = []
  rw [e]; rfl
def isP (c : Nat) (n : Nm) (p : Pu) : Bool := decide (p.conn = c ∧ p.ten = n.ten ∧ p.key = n.key)
theorem count_nodup {ns : List Nm} (h : ns.Nodup) (f : Nm → Bool) (n : Nm) : ns.countP (fun m => f m && decide (m = n)) = if n ∈ ns ∧ f n = true then 1 else 0 := by
  induction ns with
  | nil => simp
  | cons a ns ih =>
    rw [List.nodup_cons] at h
    rw [List.countP_cons, ih h.2]
    by_cases e : a = n
    · subst e
      have : ¬ (a ∈ ns ∧ f a = true) := fun hh => h.1 hh.1
      rw [if_neg this]
      cases hf : f a <;> simp
    · have e2 : n ∈ a :: ns ↔ n ∈ ns := by rw [List.mem_cons]; exact ⟨fun h => h.resolve_left (fun h => e h.symm), .inr⟩
      simp only [e2, e, decide_false, Bool.and_false, Bool.false_eq_true, if_false, Nat.add_zero]
theorem pushT_count (ch : Chg) (j c : Nat) (ns : List Nm) (n : Nm) : (pushT ch j ns).countP (isP c n) = if j = c then ns.countP (fun m => tkHit ch m && decide (m = n)) else 0 := by
  unfold pushT
  rw [List.countP_map, List.countP_filter]
  by_cases e : j = c
  · rw [if_pos e]
    congr 1
    funext m
    subst e
    show (isP j n (pushN j m) && tkHit ch m) = _
    rw [Bool.and_comm]
    congr 1
    unfold isP pushN
    rw [decide_eq_decide, nm_eq m n]; simp
  · rw [if_neg e, List.countP_eq_zero]
    intro m _
    show ¬ (isP c n (pushN j m) && tkHit ch m) = true
    unfold isP pushN
    have : ¬ (j : Int) = c := by omega
    simp [this]
theorem stepP_count (ch : Chg) (l : List Tk) (hnd : ∀ t ∈ l, t.ns.Nodup) (c : Nat) (hc : c < l.length) (n : Nm) : ∀ j, j ≤ l.length → (stepP ch l j).countP (isP c n) = if c < j ∧ n ∈ l[c].ns ∧ tkHit ch n = true then 1 else 0
  | 0, _ => by simp [stepP]
  | j + 1, hj => by
    rw [stepP, List.countP_append, stepP_count ch l hnd c hc n j (by omega), pushT_count, tkAt_eq (by omega)]
    by_cases e : j = c
    · subst e
      rw [if_pos rfl, count_nodup (hnd _ (List.getElem_mem _)), if_neg (by omega), Nat.zero_add]
      by_cases h : n ∈ l[j].ns ∧ tkHit ch n = true
      · rw [if_pos h, if_pos ⟨by omega, h⟩]
      · rw [if_neg h, if_neg (fun hh => h hh.2)]
    · rw [if_neg e, Nat.add_zero]
      by_cases h : c < j ∧ n ∈ l[c].ns ∧ tkHit ch n = true
      · rw [if_pos h, if_pos ⟨by omega, h.2⟩]
      · rw [if_neg h, if_neg (fun hh => h ⟨by omega, hh.2⟩)]
theorem runS_count (n : Nm) (c : Nat) (cs : List Chg) : ∀ (l : List Tk) (P : List Pu) (hnd : ∀ t ∈ l, t.ns.Nodup) (hc : c < l.length), (runS (l, P) cs).2.countP (isP c n) = P.countP (isP c n) + if n ∈ l[c].ns ∧ hitB cs n = true then 1 else 0 := by
  induction cs with
  | nil => intro l P _ hc; simp [runS, hitB]
  | cons ch cs ih =>
    intro l P hnd hc
    show (runS (stepT ch l, P ++ stepP ch l l.length) cs).2.countP (isP c n) = _
    have hc2 : c < (stepT ch l).length := by rw [stepT_len]; exact hc
    rw [ih _ _ (fun t ht => by obtain ⟨u, hu, rfl⟩ := List.mem_map.1 ht; exact (hnd u hu).filter _) hc2, List.countP_append, stepP_count ch l hnd c hc n _ (Nat.le_refl _), Nat.add_assoc]
    congr 1
    have e : (stepT ch l)[c] = dropT ch l[c] := by simp only [stepT, List.getElem_map]
    rw [e]
    have hm : n ∈ (dropT ch l[c]).ns ↔ n ∈ l[c].ns ∧ tkHit ch n = false := by
      unfold dropT; simp only [List.mem_filter, Bool.not_eq_true']
    have hh : hitB (ch :: cs) n = (tkHit ch n || hitB cs n) := rfl
    simp only [hm, hh, hc, true_and]
    cases h1 : tkHit ch n <;> cases h2 : hitB cs n <;> by_cases h3 : n ∈ l[c].ns <;> simp [h3]
def hsum (cs : List Chg) (l : List Tk) : Nat := (l.map fun t => t.ns.countP (hitB cs)).sum
theorem hsum_step {cs : List Chg} {l : List Tk} {i : Nat} (h : i < l.length) : hsum cs (l.take (i + 1)) = hsum cs (l.take i) + l[i].ns.countP (hitB cs) := by
  unfold hsum; rw [List.take_succ_eq_append_getElem h, List.map_append, List.sum_append]; simp only [List.map_cons, List.map_nil, List.sum_cons, List.sum_nil, Nat.add_zero]
theorem hsum_fin (cs : List Chg) (l : List Tk) : nsum l = hsum cs l + nsum (finL l cs) := by
  induction l with
  | nil => rfl
  | cons t l ih =>
    have h1 : t.ns.length = t.ns.countP (hitB cs) + (t.ns.filter fun n => !hitB cs n).length := by
      rw [← List.countP_eq_length_filter]
      exact List.length_eq_countP_add_countP (hitB cs) |>.trans (by congr 1; congr 1; funext a; simp)
    simp only [nsum, hsum, finL, List.map_cons, List.sum_cons] at ih ⊢
    omega
theorem hsum_all (cs : List Chg) (l : List Tk) : hsum cs l = (runS (l, []) cs).2.length := by
  have h1 := runS_sum cs (l, [])
  have h2 := hsum_fin cs l
  rw [runS_fst] at h1
  simp only [List.length_nil] at h1
  omega
theorem trChg_cases (l : List Tk) (cs : List Chg) (hm : trMay l) : (¬ (trChg l cs).2 = 0 ∧ (trChg l cs).1 = ([], [])) ∨ trChg l cs = ((finL l cs, (runS (l, []) cs).2), 0) := by
  unfold trChg
  rw [if_pos hm]
  by_cases h : (changesL cs).2 = 0
  · rw [if_pos h]; exact .inr (by rw [← runS_fst cs (l, [])])
  · rw [if_neg h]; exact .inl ⟨h, rfl⟩
theorem inp_change {n : Nat} {x : List AV} (h : InpP T (n + 3) 45 x) : ∃ c : Chg, x = chgE.cells c ∧ c.Ok := by
  obtain ⟨parts, rfl, hl, hp⟩ := InpP.struct tk45 h
  obtain ⟨p0, p1, p2, p3, p4, p5, p6, rfl⟩ := len7 hl
  obtain ⟨parts2, rfl, hl2, hp2⟩ := InpP.struct tk43 (hp 2 _ _ rfl rfl)
  obtain ⟨i0, i1, i2, i3, i4, rfl⟩ := len5 hl2
  obtain ⟨s0, rfl, w0⟩ := InpP.int tk5 (hp 0 _ _ rfl rfl)
  obtain ⟨s1, rfl, -⟩ := InpP.int tk3 (hp 1 _ _ rfl rfl)
  obtain ⟨t0, rfl, -⟩ := InpP.str tk9 (hp2 0 _ _ rfl rfl)
  obtain ⟨t1, rfl, -⟩ := InpP.str tk9 (hp2 1 _ _ rfl rfl)
  obtain ⟨t2, rfl, x2⟩ := InpP.int tk40 (hp2 2 _ _ rfl rfl)
  obtain ⟨t3, rfl, -⟩ := InpP.int tk3 (hp2 3 _ _ rfl rfl)
  obtain ⟨t4, rfl, x4⟩ := InpP.int tk41 (hp2 4 _ _ rfl rfl)
  obtain ⟨s3, rfl, -⟩ := InpP.str tk9 (hp 3 _ _ rfl rfl)
  obtain ⟨s4, rfl, w4⟩ := InpP.int tk5 (hp 4 _ _ rfl rfl)
  obtain ⟨s5, rfl, -⟩ := InpP.int tk3 (hp 5 _ _ rfl rfl)
  obtain ⟨s6, rfl⟩ := InpP.bool tk4 (hp 6 _ _ rfl rfl)
  exact ⟨⟨s0, s1, t0, t1, t2, t3, t4, s3, s4, s5, s6⟩, rfl, ⟨u8_wfi w0, u32_wfi x2, u64_wf x4, u8_wfi w4⟩⟩
theorem inp_changes {n : Nat} {a : AV} (h : InpPV T (n + 4) 25 a) : ∃ l : List Chg, a = chgE.lst l ∧ (∀ c ∈ l, c.Ok) ∧ l.length ≤ 140737488355328 := by
  obtain ⟨xs, rfl, ho, -, hd⟩ := InpPV.slice (E := chgE) (Pr := Chg.Ok) tk25 (fun x hx => inp_change hx) h
  exact ⟨xs, rfl, ho, by have : xs.length * 112 ≤ reachBytes := hd _ td45; unfold reachBytes at this; omega⟩
end Go.Proofs.Ytccfhighlpfdmaa
