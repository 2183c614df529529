import Derived.Test.YtkmkhiipiflelaaPiO
import Derived.Orders
/-! PI, part P: regions that draw their order: the run. -/
set_option linter.unusedVariables false
set_option linter.unusedSimpArgs false
namespace Go.Proofs.PI
open Go.RowKit

/-! ### The checks, read -/
theorem pairsOk_pw {ops : List Oper} {ms : List Nat} : ∀ {l : List Nat}, pairsOk ops ms l = true → l.Pairwise fun j i => pairOk ops ms j i = true
  | [], _ => .nil
  | j :: l, h => by
    simp only [pairsOk, Bool.and_eq_true, List.all_eq_true] at h
    exact .cons h.1 (pairsOk_pw h.2)
theorem chainOk_mem {ops : List Oper} {ms : List Nat} : ∀ (l : List Nat) (e : Nat), chainOk ops ms (some e) l = true → ∀ i ∈ l, ∃ e', (e' = e ∨ e' ∈ l) ∧ cl ms e' i = true
  | [], _, _, i, hi => by simp at hi
  | j :: l, e, h, i, hi => by
    simp only [chainOk, Bool.and_eq_true] at h
    rcases List.mem_cons.1 hi with rfl | hi
    · exact ⟨e, .inl rfl, h.1⟩
    · by_cases hj : effAt ops j = true
      · rw [if_pos hj] at h
        obtain ⟨e', h1, h2⟩ := chainOk_mem l j h.2 i hi
        exact ⟨e', .inr (by rcases h1 with rfl | h1 <;> simp [*]), h2⟩
      · rw [if_neg hj] at h
        obtain ⟨e', h1, h2⟩ := chainOk_mem l e h.2 i hi
        exact ⟨e', by rcases h1 with rfl | h1 <;> simp [*], h2⟩

/-! ### The log -/
structure Ent where
  i : Nat
  o : Oper
  v : AV
  rc : RC
def frOf (f : Fr) : List Ent → Fr
  | [] => f
  | e :: l => (frOf f l).put e.o.dst e.v
def frE (f : Fr) (E : Nat → Bool) : List Ent → Fr
  | [] => f
  | e :: l => if E e.i = true then (frE f E l).put e.o.dst e.v else frE f E l

theorem Fr.get_put_ne {fr : Fr} {d : Option Tmp} {v : AV} {t : Nat} (h : d ≠ some t) : (fr.put d v).get t = fr.get t := by
  cases d with
  | none => rfl
  | some d => rw [Fr.get_put, if_neg]; rintro rfl; exact h rfl
theorem frE_get_log {f : Fr} {E : Nat → Bool} {t : Nat} : ∀ {l : List Ent}, (∀ e ∈ l, e.o.dst = some t → E e.i = true) → (frE f E l).get t = (frOf f l).get t
  | [], _ => rfl
  | e :: l, h => by
    have ih := frE_get_log (f := f) (l := l) fun e' he => h e' (by simp [he])
    simp only [frE, frOf]
    by_cases hd : e.o.dst = some t
    · rw [if_pos (h e (by simp) hd), hd, Fr.get_put, Fr.get_put, if_pos rfl, if_pos rfl]
    · rw [Fr.get_put_ne hd]
      split
      · rw [Fr.get_put_ne hd]; exact ih
      · exact ih
theorem frE_get_after {f : Fr} {E : Nat → Bool} {t : Nat} {r : List Ent} : ∀ {l : List Ent}, (∀ e ∈ l, e.o.dst = some t → E e.i = false) → (frE f E (l ++ r)).get t = (frE f E r).get t
  | [], _ => rfl
  | e :: l, h => by
    have ih := frE_get_after (f := f) (r := r) (l := l) fun e' he => h e' (by simp [he])
    simp only [List.cons_append, frE]
    split
    · rename_i he
      rw [Fr.get_put_ne fun hd => by rw [h e (by simp) hd] at he; cases he]; exact ih
    · exact ih
theorem frE_same {f : Fr} {E E' : Nat → Bool} : ∀ {l : List Ent}, (∀ e ∈ l, E e.i = E' e.i) → frE f E l = frE f E' l
  | [], _ => rfl
  | e :: l, h => by
    simp only [frE]
    rw [h e (by simp), frE_same fun e' he => h e' (by simp [he])]
theorem Fr.put_comm' {fr : Fr} {c d : Option Tmp} {u v : AV} (h : ∀ t, c = some t → d ≠ some t) : (fr.put c u).put d v = (fr.put d v).put c u := by
  cases c with
  | none => rfl
  | some c => cases d with
    | none => rfl
    | some d =>
      have : c ≠ d := fun e => h c rfl (by rw [e])
      funext t
      simp only [Fr.put]
      by_cases h1 : t = d
      · subst h1; simp [Ne.symm this]
      · simp [h1]
theorem frE_put_after {f : Fr} {E : Nat → Bool} {d : Option Tmp} {v : AV} {r r' : List Ent} (hr : frE f E r = (frE f E r').put d v) : ∀ {l : List Ent}, (∀ e ∈ l, E e.i = true → ∀ t, d = some t → e.o.dst ≠ some t) →
    frE f E (l ++ r) = (frE f E (l ++ r')).put d v
  | [], _ => hr
  | e :: l, h => by
    have ih := frE_put_after hr (l := l) fun e' he => h e' (by simp [he])
    simp only [List.cons_append, frE]
    split
    · rename_i he
      rw [ih, Fr.put_comm' (h e (by simp) he)]
    · exact ih

section
variable {P : Program} {T : TypeId → Option TD} {n : Nat}
variable (P T n)
structure EntOk (m : Nat) (ops : List Oper) (f : Fr) (E : Nat → Bool) (φ : Ph) (H : Heap) (e : Ent) (rest : List Ent) : Prop where
  op : ops[e.i]? = some e.o
  dst : dstOk n e.o
  pend : E e.i = false → isEff e.o.op = false ∧ ((wantd ops (frOf f rest) e.o = some false ∧ e.v = .tup []) ∨
    (wantd ops (frOf f rest) e.o = some true ∧ Made T (frOf f rest).ev e.o.op e.v e.rc))
  ok : E e.i = false → e.rc.ok T H
  lt : ∀ s H₀, e.rc = .blk s H₀ → s < H.length
  ge : ∀ s H₀, e.rc = .blk s H₀ → m ≤ s
  un : E e.i = false → ∀ s H₀, e.rc = .blk s H₀ → φ s = none
  ne : ∀ s H₀, e.rc = .blk s H₀ → ∀ e' ∈ rest, ∀ s' H', e'.rc = .blk s' H' → s' ≠ s
def LogOk (m : Nat) (ops : List Oper) (f : Fr) (E : Nat → Bool) (φ : Ph) (H : Heap) (log : List Ent) : Prop := ∀ after e rest, log = after ++ e :: rest → EntOk T n m ops f E φ H e rest
variable {T n}
theorem LogOk.cons {m : Nat} {ops : List Oper} {f : Fr} {E : Nat → Bool} {φ : Ph} {H : Heap} {log : List Ent} {e : Ent} (he : EntOk T n m ops f E φ H e log) (h : LogOk T n m ops f E φ H log) : LogOk T n m ops f E φ H (e :: log) := by
  intro after e' rest heq
  cases after with
  | nil => simp only [List.nil_append, List.cons.injEq] at heq; obtain ⟨rfl, rfl⟩ := heq; exact he
  | cons a after => simp only [List.cons_append, List.cons.injEq] at heq; exact h after e' rest heq.2

variable (T n)
structure Inv (ops : List Oper) (f : Fr) (Q : Fr → Heap → Prop) (plan : List Nat) (E : Nat → Bool) (log : List Ent) (l : List Nat) (base : Nat) (φ₀ : Ph) (G : Heap) (w₀ : World) (φ : Ph) (H : Heap) (w : World) (a : Act) : Prop where
  pl : plan = (log.map (·.i)).reverse ++ l
  lok : LogOk T n G.length ops f E φ H log
  sub : ∀ i, E i = true → i ∈ log.map (·.i)
  ch : ∃ le, chainOk ops (masks ops) le l = true
  wd : WD P T n ops (mkSteps ops (masks ops) (log.map (·.i)) l) (log.map (·.rc)) (frOf f log) H Q
  rel : Rel base φ H w
  frel : FRel φ n (frE f E log) a
  ext : Ext base φ₀ G w₀ φ H w
variable {P T n}

theorem drop_get {ops : List Oper} {ms : List Nat} {i : Nat} {done l : List Nat} {o : Oper} (ho : ops[i]? = some o) :
    mkSteps ops ms done (i :: l) = (o, if isEff o.op = true then some (done.map fun j => cl ms j i) else none) :: mkSteps ops ms (i :: done) l := by
  simp only [mkSteps, ho]

/-- The steps that touch nothing are thought ahead. -/
theorem Inv.advance {ops : List Oper} {f : Fr} {Q : Fr → Heap → Prop} {plan : List Nat} {E : Nat → Bool} {base : Nat} {φ₀ : Ph} {G : Heap} {w₀ : World} {φ : Ph} {w : World} {a : Act} (hlt : ∀ i ∈ plan, i < ops.length) (hnd : plan.Nodup) :
    ∀ (l : List Nat) (log : List Ent) (H : Heap), Inv P T n ops f Q plan E log l base φ₀ G w₀ φ H w a →
    ∃ log' l' H', Inv P T n ops f Q plan E log' l' base φ₀ G w₀ φ H' w a ∧ H.length ≤ H'.length ∧ ∀ i l'', l' = i :: l'' → effAt ops i = true := by
  intro l
  induction l with
  | nil => intro log H h; exact ⟨log, [], H, h, Nat.le_refl _, fun i l'' he => by cases he⟩
  | cons i l ih =>
    intro log H h
    by_cases he : effAt ops i = true
    · exact ⟨log, _, H, h, Nat.le_refl _, fun j l'' hj => by simp only [List.cons.injEq] at hj; obtain ⟨rfl, rfl⟩ := hj; exact he⟩
    · have hil : i < ops.length := hlt i (by rw [h.pl]; simp)
      have ho : ops[i]? = some ops[i] := List.getElem?_eq_getElem hil
      generalize ops[i] = o at ho
      have heff : isEff o.op = false := by simp only [effAt, ho] at he; simpa using he
      have hnE : E i = false := by
        cases hE : E i with
        | false => rfl
        | true =>
          have := h.sub i hE
          rw [h.pl] at hnd
          rw [List.nodup_append] at hnd
          exact (hnd.2.2 i (by simpa using this) i (by simp) rfl).elim
      have hwd := h.wd
      rw [drop_get ho, if_neg (by rw [heff]; simp)] at hwd
      obtain ⟨hd, hg⟩ := hwd
      obtain ⟨le, hch⟩ := h.ch
      simp only [chainOk, Bool.and_eq_true] at hch
      have mk : ∀ (v : AV) (rc : RC) (H' : Heap), (H' = H ∨ ∃ B, H' = H ++ [B]) →
          ((wantd ops (frOf f log) o = some false ∧ v = .tup []) ∨ (wantd ops (frOf f log) o = some true ∧ Made T (frOf f log).ev o.op v rc)) → rc.ok T H' → (∀ s H₀, rc = .blk s H₀ → s = H.length ∧ s < H'.length) →
          WD P T n ops (mkSteps ops (masks ops) (i :: log.map (·.i)) l) (rc :: log.map (·.rc)) ((frOf f log).put o.dst v) H' Q → Inv P T n ops f Q plan E (⟨i, o, v, rc⟩ :: log) l base φ₀ G w₀ φ H' w a := by
        intro v rc H' hH hp hok hs hw
        have hlen : H.length ≤ H'.length := by rcases hH with rfl | ⟨B, rfl⟩ <;> simp
        have hrel : Rel base φ H' w := by
          rcases hH with rfl | ⟨B, rfl⟩
          · exact h.rel
          · exact h.rel.snoc B
        have hold : LogOk T n G.length ops f E φ H' log := fun after e rest heq => by
          have q := h.lok after e rest heq
          refine ⟨q.op, q.dst, q.pend, fun hE => ?_, fun s H₀ hrc => Nat.lt_of_lt_of_le (q.lt s H₀ hrc) hlen, q.ge, q.un, q.ne⟩
          rcases hH with rfl | ⟨B, rfl⟩
          · exact q.ok hE
          · exact RC.ok_snoc B q.lt (q.ok hE)
        refine ⟨by rw [h.pl]; simp, LogOk.cons ⟨ho, hd, fun _ => ⟨heff, hp⟩, fun _ => hok, fun s H₀ hrc => (hs s H₀ hrc).2, fun s H₀ hrc => by rw [(hs s H₀ hrc).1]; exact h.ext.len, fun _ s H₀ hrc => ?_, fun s H₀ hrc e' he' s' H'' hrc' => ?_⟩ hold, fun j hj => ?_, ⟨_, hch.2⟩, hw, hrel, ?_, ⟨h.ext.keep, Nat.le_trans h.ext.len hlen, h.ext.below, h.ext.fz, h.ext.fzn⟩⟩
        · rw [(hs s H₀ hrc).1]; exact h.rel.unmapped
        · obtain ⟨q1, q2, hq⟩ := List.append_of_mem he'
          have := (h.lok q1 e' q2 hq).lt s' H'' hrc'
          have := (hs s H₀ hrc).1
          omega
        · simp only [List.map_cons, List.mem_cons]; exact .inr (h.sub j hj)
        · simp only [frE, hnE]; exact h.frel
      unfold Guard drU opH at hg
      split at hg
      · rename_i hw
        rcases WOp_split heff hg with ⟨v, h1, h2⟩ | ⟨B, mk', h1, h2, h3⟩
        · obtain ⟨m1, m2, m3⟩ := made_val (s := H.length) (H₀ := H) h1
          obtain ⟨log', l', H', r1, r2, r3⟩ := ih _ _ (mk v _ H (.inl rfl) (.inr ⟨hw, m1⟩) m2 (fun s H₀ hrc => (m3 s H₀ hrc).elim) h2)
          exact ⟨log', l', H', r1, r2, r3⟩
        · obtain ⟨log', l', H', r1, r2, r3⟩ := ih _ _ (mk _ (mkRC T (frOf f log).ev (mk' H.length) H.length (H ++ [B]) o.op) (H ++ [B]) (.inr ⟨B, rfl⟩)
            (.inr ⟨hw, fun H' hok => .inr ⟨H.length, H ++ [B], B, mk', h3 _ _ _, by simp, h1, rfl⟩⟩) (by rw [h3]; simp [RC.ok]) (fun s H₀ hrc => by rw [h3] at hrc; simp only [RC.blk.injEq] at hrc; obtain ⟨rfl, rfl⟩ := hrc; exact ⟨rfl, by simp⟩) h2)
          exact ⟨log', l', H', r1, Nat.le_trans (by simp) r2, r3⟩
      · rename_i hw
        obtain ⟨log', l', H', r1, r2, r3⟩ := ih _ _ (mk _ .pure H (.inl rfl) (.inl ⟨hw, rfl⟩) trivial (fun s H₀ hrc => by cases hrc) hg)
        exact ⟨log', l', H', r1, r2, r3⟩
      · exact hg.elim

open Classical in
noncomputable def mask (o : Oper) (ev : Operand → AV) (x : Operand) : AV := if x ∈ o.op.operands then ev x else .junk
theorem mask_in {o : Oper} {ev : Operand → AV} : ∀ x ∈ o.op.operands, mask o ev x = ev x := fun x hx => if_pos hx
theorem mask_rv {φ : Ph} {o : Oper} {ops : List Oper} {f g : Fr} {a : Act} (hf : FRel φ n g a) (h : ∀ t ∈ looks ops o, g.get t = f.get t) (x : Operand) : RV φ (mask o f.ev x) (a.eval x) := by
  unfold mask
  split
  · rename_i hx
    have he : f.ev x = g.ev x := by
      cases x with
      | tmp t => exact (h t (List.mem_append_left _ (List.mem_filterMap.2 ⟨.tmp t, by simpa using hx, rfl⟩))).symm
      | _ => rfl
    rw [he]; exact hf.ev x
  · exact .junk _
theorem wantd_looks {ops : List Oper} {o : Oper} {f g : Fr} (h : ∀ t ∈ looks ops o, g.get t = f.get t) : wantd ops g o = wantd ops f o := by
  unfold wantd
  cases hg : o.guard with
  | none => rfl
  | some jw =>
    obtain ⟨j, want⟩ := jw
    simp only
    cases hd : (ops[j]?).bind (·.dst) with
    | none => rfl
    | some d =>
      simp only
      rw [h d]
      unfold looks
      rw [hg]
      simp [hd]

def setE (E : Nat → Bool) (i j : Nat) : Bool := j == i || E j
theorem keepAll_mem {fl : Ent → Bool} {H : Heap} : ∀ {l : List Ent}, keepAll T (l.map fl) (l.map (·.rc)) H → ∀ e ∈ l, fl e = false → e.rc.ok T H
  | [], _, e, he, _ => by simp at he
  | e :: l, h, e', he, hfl => by
    simp only [List.map_cons] at h
    cases hb : fl e with
    | false =>
      rw [hb] at h
      rcases List.mem_cons.1 he with rfl | he
      · exact h.1
      · exact keepAll_mem h.2 e' he hfl
    | true =>
      rw [hb] at h
      rcases List.mem_cons.1 he with rfl | he
      · rw [hb] at hfl; cases hfl
      · exact keepAll_mem h e' he hfl

theorem apart_dst {ops : List Oper} {o u : Oper} (h : apartB ops o u = true) : (∀ d, o.dst = some d → d ∉ looks ops u) ∧ (∀ d, o.dst = some d → u.dst ≠ some d) ∧ (∀ d, u.dst = some d → d ∉ looks ops o) := by
  refine ⟨fun d hd => ?_, fun d hd => ?_, fun d hd => ?_⟩ <;> simp only [apartB, hd, Bool.and_eq_true, Bool.not_eq_true', List.contains_eq_mem, decide_eq_false_iff_not, bne_iff_ne] at h
  · exact h.1.1
  · exact h.1.2
  · exact h.2

/-- A step that stands in the log is made. -/
theorem Inv.pending (hT : TOk P T) {ops : Array Oper} {f : Fr} {Q : Fr → Heap → Prop} {plan : List Nat} {E : Nat → Bool} {log : List Ent} {l : List Nat} {base : Nat} {φ₀ : Ph} {G : Heap} {w₀ : World} {φ : Ph} {H : Heap} {w : World} {a : Act}
    (hpw : plan.Pairwise fun j i => pairOk ops.toList (masks ops.toList) j i = true) (hE : Closed ops.toList (fun i => E i = true)) (h : Inv P T n ops.toList f Q plan E log l base φ₀ G w₀ φ H w a)
    {i : Nat} {R : Exit → Act → World → Prop} {K : Act → World → Prop} (hi : E i = false) (hlog : i ∈ log.map (·.i)) (hedge : ∀ o, ops[i]? = some o → ∀ e ∈ edgesOf o, E e = true)
    (hK : ∀ φ' w' a', Inv P T n ops.toList f Q plan (setE E i) log l base φ₀ G w₀ φ' H w' a' → K a' w') : wpOp P ops R i K a w := by
  obtain ⟨ent, hent, rfl⟩ := List.mem_map.1 hlog
  obtain ⟨after, rest, hl⟩ := List.append_of_mem hent
  have q := h.lok after ent rest hl
  have ho : ops[ent.i]? = some ent.o := by have := q.op; rw [Array.getElem?_toList] at this; exact this
  have hpl := h.pl
  rw [hl] at hpl
  simp only [List.map_append, List.map_cons, List.reverse_append, List.reverse_cons, List.append_assoc, List.singleton_append] at hpl
  rw [hpl] at hpw
  -- who stands before and behind
  have hrest : ∀ e ∈ rest, pairOk ops.toList (masks ops.toList) e.i ent.i = true := fun e he => by
    rw [List.pairwise_append] at hpw
    exact hpw.2.2 e.i (by simpa using ⟨e, he, rfl⟩) ent.i (by simp)
  have hafter : ∀ e ∈ after, pairOk ops.toList (masks ops.toList) ent.i e.i = true := fun e he => by
    rw [List.pairwise_append] at hpw
    have := hpw.2.1
    rw [List.cons_append, List.pairwise_cons] at this
    exact this.1 e.i (by simp; exact .inl ⟨e, he, rfl⟩)
  have hopR : ∀ e ∈ rest, ops.toList[e.i]? = some e.o := fun e he => by
    obtain ⟨q1, q2, hq⟩ := List.append_of_mem he
    exact (h.lok (after ++ ent :: q1) e q2 (by rw [hl, hq]; simp)).op
  have hopA : ∀ e ∈ after, ops.toList[e.i]? = some e.o := fun e he => by
    obtain ⟨q1, q2, hq⟩ := List.append_of_mem he
    exact (h.lok q1 e (q2 ++ ent :: rest) (by rw [hl, hq]; simp)).op
  have hclE : ∀ j, cl (masks ops.toList) j ent.i = true → E j = true := fun j hj => masks_sound ops.toList _ hE ent.i j ent.o q.op hj (hedge _ ho)
  have hR : ∀ e ∈ rest, e.i ≠ ent.i ∧ (E e.i = true ∨ apartB ops.toList e.o ent.o = true) := fun e he => by
    have := hrest e he
    simp only [pairOk, hopR e he, q.op, Bool.and_eq_true, bne_iff_ne, ne_eq, Bool.or_eq_true] at this
    exact ⟨this.1, this.2.imp (hclE _) id⟩
  have hA : ∀ e ∈ after, e.i ≠ ent.i ∧ (E e.i = false ∨ apartB ops.toList ent.o e.o = true) := fun e he => by
    have := hafter e he
    simp only [pairOk, hopA e he, q.op, Bool.and_eq_true, bne_iff_ne, ne_eq, Bool.or_eq_true] at this
    refine ⟨fun h => this.1 h.symm, this.2.imp (fun hc => ?_) id⟩
    cases hEe : E e.i with
    | false => rfl
    | true =>
      have := masks_sound ops.toList _ hE e.i ent.i e.o (hopA e he) hc (hE e.i e.o (hopA e he) hEe)
      simp only [hi, Bool.false_eq_true] at this
  have hlook : ∀ t ∈ looks ops.toList ent.o, (frE f E log).get t = (frOf f rest).get t := fun t ht => by
    rw [hl, frE_get_after]
    · simp only [frE, hi]
      exact frE_get_log fun e he hd => by
        rcases (hR e he).2 with h1 | h1
        · exact h1
        · exact ((apart_dst h1).1 t hd ht).elim
    · intro e he hd
      rcases (hA e he).2 with h1 | h1
      · exact h1
      · exact ((apart_dst h1).2.2 t hd ht).elim
  have hfrE : ∀ v, v = ent.v → frE f (setE E ent.i) log = (frE f E log).put ent.o.dst v := fun v hv => by
    subst hv
    have e1 : frE f (setE E ent.i) log = frE f (setE E ent.i) (after ++ ent :: rest) := by rw [hl]
    have hset : ∀ e : Ent, e.i ≠ ent.i → setE E ent.i e.i = E e.i := fun e he => by simp [setE, he]
    have e2 : frE f (setE E ent.i) (ent :: rest) = (frE f E rest).put ent.o.dst ent.v := by
      have e3 : frE f (setE E ent.i) rest = frE f E rest := frE_same fun e he => hset e (hR e he).1
      simp only [frE]
      rw [if_pos (by simp [setE]), e3]
    have e4 : frE f (setE E ent.i) rest = frE f E rest := frE_same fun e he => hset e (hR e he).1
    have e5 : frE f E (ent :: rest) = frE f E rest := by simp only [frE, hi]; rfl
    have e6 := frE_put_after (f := f) (E := setE E ent.i) (d := ent.o.dst) (v := ent.v) (r := ent :: rest) (r' := rest) (by rw [e2, e4]) (l := after) fun e he hEe t ht hd => by
      rw [hset e (hA e he).1] at hEe
      rcases (hA e he).2 with h1 | h1
      · rw [h1] at hEe; cases hEe
      · exact (apart_dst h1).2.1 t ht hd
    rw [e1, e6]
    congr 1
    rw [hl]
    have e7 : ∀ l : List Ent, (∀ e ∈ l, e.i ≠ ent.i) → frE f (setE E ent.i) (l ++ rest) = frE f E (l ++ ent :: rest) := fun l => by
      induction l with
      | nil => intro _; rw [List.nil_append, List.nil_append, e4, e5]
      | cons b l ih =>
        intro hb
        simp only [List.cons_append, frE]
        rw [hset b (hb b (by simp)), ih fun e he => hb e (by simp [he])]
    exact e7 after fun e he => (hA e he).1
  have hdst : ∀ t, ent.o.dst = some t → t < n := fun t ht => by have := q.dst; unfold dstOk at this; rw [ht] at this; exact this
  have hold : ∀ φ' : Ph, (∀ b, (∀ s H₀, ent.rc = .blk s H₀ → b ≠ s) → φ' b = φ b) → LogOk T n G.length ops.toList f (setE E ent.i) φ' H log := fun φ' hφ' af e re heq => by
    have k := h.lok af e re heq
    have himp : setE E ent.i e.i = false → E e.i = false ∧ e.i ≠ ent.i := fun hs => by
      simp only [setE, Bool.or_eq_false_iff, beq_eq_false_iff_ne] at hs; exact ⟨hs.2, hs.1⟩
    refine ⟨k.op, k.dst, fun hs => k.pend (himp hs).1, fun hs => k.ok (himp hs).1, k.lt, k.ge, fun hs s H₀ hrc => ?_, k.ne⟩
    rw [hφ' s ?_]
    · exact k.un (himp hs).1 s H₀ hrc
    · rintro s' H' hrc' rfl
      have hmem : e ∈ log := by rw [heq]; simp
      rw [hl] at hmem
      rcases List.mem_append.1 hmem with hm | hm
      · obtain ⟨q1, q2, hq⟩ := List.append_of_mem hm
        exact (h.lok q1 e (q2 ++ ent :: rest) (by rw [hl, hq]; simp)).ne s H₀ hrc ent (by simp) s H' hrc' rfl
      · rcases List.mem_cons.1 hm with rfl | hm
        · exact (himp hs).2 rfl
        · exact q.ne s H' hrc' e hm s H₀ hrc rfl
  have hsub : ∀ j, setE E ent.i j = true → j ∈ log.map (·.i) := fun j hj => by
    simp only [setE, Bool.or_eq_true, beq_iff_eq] at hj
    rcases hj with rfl | hj
    · exact hlog
    · exact h.sub j hj
  have hmon : ∀ φ' : Ph, φ.le φ' → ∀ u, RV φ' ent.v u → FRel φ' n (frE f (setE E ent.i) log) (a.put ent.o.dst u) := fun φ' hφ' u hu => by
    rw [hfrE ent.v rfl]
    exact (h.frel.mono hφ').put hdst hu
  have hwant : ∀ b, wantd ops.toList (frOf f rest) ent.o = some b → Region.wanted ent.o (yielded ops a.tmps) = b := fun b hb => wantd_is h.frel (by rw [wantd_looks hlook]; exact hb)
  obtain ⟨heff, hp⟩ := q.pend hi
  unfold wpOp
  rw [ho]
  simp only
  rcases hp with ⟨hw, hv⟩ | ⟨hw, hmade⟩
  · rw [if_neg (by rw [hwant _ hw]; simp)]
    exact hK φ w _ ⟨h.pl, hold φ (fun _ _ => rfl), hsub, h.ch, h.wd, h.rel, hmon φ (.refl _) _ (by rw [hv]; exact RV.undef φ), h.ext⟩
  · rw [if_pos (hwant _ hw)]
    refine .inl ?_
    rcases hmade H (q.ok hi) with hval | ⟨s, H₀, B, mk, hrc, hB, hal, hv⟩
    · have hW : WOp P T (frOf f rest).ev ent.o H (fun v' H' => v' = ent.v ∧ H' = H) := WOp_of_aval heff hval ⟨rfl, rfl⟩
      rw [WOp_congr (fun x hx => (mask_in (o := ent.o) (ev := (frOf f rest).ev) x hx).symm)] at hW
      refine WOp_run hT hW h.rel (mask_rv h.frel hlook) ?_
      rintro v u H' φ' w' h1 h2 h3 ⟨rfl, rfl⟩
      refine hK φ' w' _ ⟨h.pl, hold φ' (fun b _ => ?_), hsub, h.ch, h.wd, h2, hmon φ' (h3.sub h.rel) u h1, h.ext.trans h3⟩
      by_cases hb : b < H'.length
      · exact h3.keep b hb
      · have hnone : ∀ χ : Ph, ∀ w, Rel base χ H' w → χ b = none := fun χ w hr => by
          cases hc : χ b with
          | none => rfl
          | some L => exact (hb (hr.dom b L hc)).elim
        rw [hnone _ _ h2, hnone _ _ h.rel]
    · have hal' : aalloc T (mask ent.o (frOf f rest).ev) ent.o.op = some (B, mk) := by
        rw [aalloc_congr (fun x hx => mask_in (o := ent.o) (ev := (frOf f rest).ev) x hx)]; exact hal
      have hok := q.ok hi
      rw [hrc] at hok
      simp only [RC.ok] at hok
      have hun := q.un hi s H₀ hrc
      obtain ⟨u, w', L, h1, h2, h3, h4⟩ := aalloc_run hT (mask_rv h.frel hlook) ent.o hal' h.rel (s := s) (by rw [hok]; exact hB) hun
      unfold Oper.wp
      rw [h1]
      have hsub' : φ.le (upd φ s L) := upd_sub L hun
      have hslt := q.lt s H₀ hrc
      have hge := q.ge s H₀ hrc
      exact hK (upd φ s L) w' _ ⟨h.pl, hold _ (fun b hb => upd_other _ _ (hb s H₀ hrc)), hsub, h.ch, h.wd, h2, hmon _ hsub' u (by rw [hv]; exact h3),
        ⟨fun b hb => (upd_other _ _ (by omega)).trans (h.ext.keep b hb), h.ext.len, h.ext.below.trans h4, h.ext.fz, h.ext.fzn⟩⟩

/-- The effect that heads the plan is made. -/
theorem Inv.effect (hT : TOk P T) {ops : Array Oper} {f : Fr} {Q : Fr → Heap → Prop} {plan : List Nat} {E : Nat → Bool} {log : List Ent} {l : List Nat} {base : Nat} {φ₀ : Ph} {G : Heap} {w₀ : World} {φ : Ph} {H : Heap} {w : World} {a : Act}
    (hpw : plan.Pairwise fun j i => pairOk ops.toList (masks ops.toList) j i = true) (hE : Closed ops.toList (fun i => E i = true)) {i : Nat} (h : Inv P T n ops.toList f Q plan E log (i :: l) base φ₀ G w₀ φ H w a)
    {R : Exit → Act → World → Prop} {K : Act → World → Prop} (hi : E i = false) (heff : effAt ops.toList i = true) (hedge : ∀ o, ops[i]? = some o → ∀ e ∈ edgesOf o, E e = true)
    (hK : ∀ φ' w' a' log' H', Inv P T n ops.toList f Q plan (setE E i) log' l base φ₀ G w₀ φ' H' w' a' → K a' w') : wpOp P ops R i K a w := by
  unfold effAt at heff
  split at heff
  rotate_left
  · cases heff
  rename_i o ho
  have hpl := h.pl
  rw [hpl, List.pairwise_append] at hpw
  have hclE : ∀ j, cl (masks ops.toList) j i = true → E j = true := fun j hj => masks_sound ops.toList _ hE i j o ho hj (hedge _ (by rw [Array.getElem?_toList] at ho; exact ho))
  have hop : ∀ e ∈ log, ops.toList[e.i]? = some e.o := fun e he => by
    obtain ⟨q1, q2, hq⟩ := List.append_of_mem he
    exact (h.lok q1 e q2 hq).op
  have hL : ∀ e ∈ log, e.i ≠ i ∧ (E e.i = true ∨ apartB ops.toList e.o o = true) := fun e he => by
    have := hpw.2.2 e.i (by simpa using ⟨e, he, rfl⟩) i (by simp)
    simp only [pairOk, hop e he, ho, Bool.and_eq_true, bne_iff_ne, ne_eq, Bool.or_eq_true] at this
    exact ⟨this.1, this.2.imp (hclE _) id⟩
  have hlook : ∀ t ∈ looks ops.toList o, (frE f E log).get t = (frOf f log).get t := fun t ht =>
    frE_get_log fun e he hd => by
      rcases (hL e he).2 with h1 | h1
      · exact h1
      · exact ((apart_dst h1).1 t hd ht).elim
  have hset : ∀ e ∈ log, setE E i e.i = E e.i := fun e he => by simp [setE, (hL e he).1]
  have hfrE : frE f (setE E i) log = frE f E log := frE_same fun e he => hset e he
  have hwd := h.wd
  rw [drop_get ho, if_pos heff] at hwd
  obtain ⟨hd, hg⟩ := hwd
  have hd' : ∀ t, o.dst = some t → t < n := fun t ht => by unfold dstOk at hd; rw [ht] at hd; exact hd
  obtain ⟨le, hch⟩ := h.ch
  simp only [chainOk, Bool.and_eq_true] at hch
  have hwant : ∀ b, wantd ops.toList (frOf f log) o = some b → Region.wanted o (yielded ops a.tmps) = b := fun b hb => wantd_is h.frel (by rw [wantd_looks hlook]; exact hb)
  have fin : ∀ (v : AV) (u : Value) (φ' : Ph) (H' : Heap) (w' : World), RV φ' v u → Rel base φ' H' w' → Ext base φ H w φ' H' w' → (∀ e ∈ log, E e.i = false → e.rc.ok T H') →
      WD P T n ops.toList (mkSteps ops.toList (masks ops.toList) (i :: log.map (·.i)) l) (.pure :: log.map (·.rc)) ((frOf f log).put o.dst v) H' Q → K (a.put o.dst u) w' := by
    intro v u φ' H' w' hv hr hx hok hw
    refine hK φ' w' _ (⟨i, o, v, .pure⟩ :: log) H' ⟨by rw [hpl]; simp, LogOk.cons ⟨ho, hd, fun hs => by simp [setE] at hs, fun _ => trivial, fun s H₀ hrc => (by cases hrc), fun s H₀ hrc => (by cases hrc), fun _ s H₀ hrc => (by cases hrc), fun s H₀ hrc => (by cases hrc)⟩ ?_, fun j hj => ?_, ⟨_, hch.2⟩, hw, hr, ?_, h.ext.trans hx⟩
    · intro af e re heq
      have k := h.lok af e re heq
      have hm : e ∈ log := by rw [heq]; simp
      have hE' : setE E i e.i = false → E e.i = false := fun hs => by rw [← hset e hm]; exact hs
      refine ⟨k.op, k.dst, fun hs => k.pend (hE' hs), fun hs => hok e hm (hE' hs), fun s H₀ hrc => Nat.lt_of_lt_of_le (k.lt s H₀ hrc) hx.len, k.ge, fun hs s H₀ hrc => ?_, k.ne⟩
      rw [hx.keep s (k.lt s H₀ hrc)]
      exact k.un (hE' hs) s H₀ hrc
    · simp only [setE, Bool.or_eq_true, beq_iff_eq] at hj
      rcases hj with rfl | hj
      · simp
      · exact List.mem_cons_of_mem _ (h.sub j hj)
    · simp only [frE]
      rw [if_pos (by simp [setE]), hfrE]
      exact (h.frel.mono (hx.sub h.rel)).put hd' hv
  have hoA : ops[i]? = some o := by rw [Array.getElem?_toList] at ho; exact ho
  unfold Guard drU opH at hg
  unfold wpOp
  rw [hoA]
  simp only
  split at hg
  · rename_i hw
    rw [if_pos (hwant _ hw)]
    rw [WOp_congr (fun x hx => (mask_in (o := o) (ev := (frOf f log).ev) x hx).symm)] at hg
    refine .inl (WOp_run hT hg h.rel (mask_rv h.frel hlook) fun v u H' φ' w' h1 h2 h3 h4 => ?_)
    refine fin v u φ' H' w' h1 h2 h3 (fun e he hEe => ?_) h4.2
    have h5 := h4.1
    rw [List.map_map] at h5
    refine keepAll_mem (T := T) (fl := fun e => cl (masks ops.toList) e.i i) h5 e he ?_
    cases hc : cl (masks ops.toList) e.i i with
    | false => rfl
    | true => rw [hclE _ hc] at hEe; cases hEe
  · rename_i hw
    rw [if_neg (by rw [hwant _ hw]; simp)]
    refine fin (.tup []) undef φ H w (RV.undef φ) h.rel (Ext.refl ..) (fun e he hEe => ?_) hg
    obtain ⟨q1, q2, hq⟩ := List.append_of_mem he
    exact (h.lok q1 e q2 hq).ok hEe
  · exact hg.elim

theorem edgesOk_split {ops : List Oper} : ∀ (l done : List Nat), edgesOk ops done l = true → ∀ p i q, l = p ++ i :: q → ∃ o, ops[i]? = some o ∧ ∀ e ∈ edgesOf o, e ∈ done ∨ e ∈ p
  | [], done, h, p, i, q, hl => by cases p <;> cases hl
  | j :: l, done, h, p, i, q, hl => by
    simp only [edgesOk, Bool.and_eq_true] at h
    cases p with
    | nil =>
      simp only [List.nil_append, List.cons.injEq] at hl
      obtain ⟨rfl, rfl⟩ := hl
      have h1 := h.1
      split at h1
      · rename_i o ho
        simp only [List.all_eq_true, List.contains_eq_mem, decide_eq_true_eq] at h1
        exact ⟨o, ho, fun e he => .inl (h1 e he)⟩
      · cases h1
    | cons b p =>
      simp only [List.cons_append, List.cons.injEq] at hl
      obtain ⟨rfl, hl⟩ := hl
      obtain ⟨o, ho, h2⟩ := edgesOk_split l _ h.2 p i q hl
      refine ⟨o, ho, fun e he => ?_⟩
      rcases h2 e he with h3 | h3
      · rcases List.mem_cons.1 h3 with rfl | h3
        · exact .inr (by simp)
        · exact .inl h3
      · exact .inr (by simp [h3])

theorem first_out {p : Nat → Bool} : ∀ (l : List Nat), (∃ i ∈ l, p i = false) → ∃ a i b, l = a ++ i :: b ∧ p i = false ∧ ∀ j ∈ a, p j = true
  | [], h => by obtain ⟨i, hi, _⟩ := h; simp at hi
  | x :: l, h => by
    cases hx : p x with
    | false => exact ⟨[], x, l, rfl, hx, fun j hj => by simp at hj⟩
    | true =>
      obtain ⟨i, hi, hp⟩ := h
      rcases List.mem_cons.1 hi with rfl | hi
      · rw [hx] at hp; cases hp
      · obtain ⟨a, i', b, h1, h2, h3⟩ := first_out l ⟨i, hi, hp⟩
        refine ⟨x :: a, i', b, by rw [h1]; simp, h2, fun j hj => ?_⟩
        rcases List.mem_cons.1 hj with rfl | hj
        · exact hx
        · exact h3 j hj

theorem draw_run (hT : TOk P T) {ops : Array Oper} {f : Fr} {Q : Fr → Heap → Prop} {plan : List Nat} {base : Nat} {φ₀ : Ph} {G : Heap} {w₀ : World} (hp : planOk ops.toList (masks ops.toList) plan = true)
    {R : Exit → Act → World → Prop} (hR : ∀ fr' H' φ' a' w', Rel base φ' H' w' → FRel φ' n fr' a' → Ext base φ₀ G w₀ φ' H' w' → Q fr' H' → R .normal a' w') :
    ∀ (fuel : Nat) (listed : Array Bool) (left : List Nat) (log : List Ent) (l : List Nat) (φ : Ph) (H : Heap) (w : World) (a : Act), listed.size = ops.size → left.length ≤ fuel → (∀ i, i ∈ left ↔ i < ops.size ∧ listed.getD i false = false) →
    Closed ops.toList (fun i => listed.getD i false = true) → Inv P T n ops.toList f Q plan (fun i => listed.getD i false) log l base φ₀ G w₀ φ H w a → wpAny P .any ops R fuel listed a w := by
  simp only [planOk, Bool.and_eq_true] at hp
  obtain ⟨⟨⟨hcov, hpairs⟩, hchain⟩, hedges⟩ := hp
  have hpw := pairsOk_pw hpairs
  have hnd : plan.Nodup := hpw.imp fun h => by simp only [pairOk, Bool.and_eq_true, bne_iff_ne, ne_eq] at h; exact h.1
  have hcov' : ∀ i, i < ops.size → i ∈ plan := fun i hi => by
    simp only [List.all_eq_true, List.mem_range, List.contains_eq_mem, decide_eq_true_eq] at hcov
    exact hcov i (by simpa using hi)
  have hlt : ∀ i ∈ plan, i < ops.toList.length := fun i hi => by
    obtain ⟨p, q, hl⟩ := List.append_of_mem hi
    obtain ⟨o, ho, _⟩ := edgesOk_split plan [] hedges p i q hl
    exact (List.getElem?_eq_some_iff.1 ho).1
  intro fuel
  induction fuel with
  | zero =>
    intro listed left log l φ H w a hsz hle hleft hcl h
    have hnil : left = [] := List.length_eq_zero_iff.1 (by omega)
    have hall : ∀ i, i < ops.size → listed.getD i false = true := fun i hi => by
      cases hg : listed.getD i false with
      | true => rfl
      | false => have := (hleft i).2 ⟨hi, hg⟩; rw [hnil] at this; simp at this
    have hready : Region.ready .any ops listed = [] := by
      unfold Region.ready
      rw [List.filter_eq_nil_iff]
      intro i hi
      have hi' : i < ops.size := by simpa using hi
      have h2 := hall i hi'
      have : listed.getD i true = true := by
        rw [Array.getD_eq_getD_getElem?] at h2 ⊢
        rw [Array.getElem?_eq_getElem (by omega)] at h2 ⊢
        simpa using h2
      simp [this]
    obtain ⟨log', l', H', r1, r2, r3⟩ := h.advance hlt hnd
    refine ⟨hready, ?_⟩
    cases l' with
    | cons i l'' =>
      exfalso
      have hm : i ∈ plan := by rw [r1.pl]; simp
      have hmem := r1.sub i (hall i (by simpa using hlt i hm))
      rw [r1.pl, List.nodup_append] at hnd
      exact hnd.2.2 i (by simpa using hmem) i (by simp) rfl
    | nil =>
      have hfr : frE f (fun i => listed.getD i false) log' = frOf f log' := funext fun t => frE_get_log (t := t) fun e he _ => by
        have hm : e.i ∈ plan := by rw [r1.pl]; simp; exact ⟨e, he, rfl⟩
        exact hall e.i (by simpa using hlt _ hm)
      exact hR _ _ _ _ _ r1.rel r1.frel r1.ext (by rw [hfr]; exact r1.wd)
  | succ fuel ih =>
    intro listed left log l φ H w a hsz hle hleft hcl h
    have hgd : ∀ i, i < ops.size → listed.getD i true = listed.getD i false := fun i hi => by
      rw [Array.getD_eq_getD_getElem?, Array.getD_eq_getD_getElem?, Array.getElem?_eq_getElem (by omega)]; rfl
    have hafterE : ∀ (o : Oper), (o.after.all fun e => !Region.binds .any e || listed.getD e.on false) = true ↔ ∀ e ∈ edgesOf o, listed.getD e false = true := fun o => by
      rw [← Array.all_toList]
      simp only [List.all_eq_true, edgesOf, List.mem_map, List.mem_filter, Bool.or_eq_true, Bool.not_eq_true']
      constructor
      · rintro hx e ⟨b, ⟨hb1, hb2⟩, rfl⟩
        rcases hx b hb1 with h1 | h1
        · rw [hb2] at h1; cases h1
        · exact h1
      · intro hx b hb
        cases hbb : Region.binds .any b with
        | false => exact .inl rfl
        | true => exact .inr (hx b.on ⟨b, ⟨hb, hbb⟩, rfl⟩)
    refine ⟨fun hnone => ?_, fun i hi => ?_⟩
    · -- nothing is ready: all is done
      by_cases hex : ∃ i ∈ plan, listed.getD i false = false
      · exfalso
        obtain ⟨p, i, q, h1, h2, h3⟩ := first_out (p := fun i => listed.getD i false) plan hex
        obtain ⟨o, ho, h4⟩ := edgesOk_split plan [] hedges p i q h1
        have hil : i < ops.size := by simpa using hlt i (by rw [h1]; simp)
        have : i ∈ Region.ready .any ops listed := by
          unfold Region.ready
          rw [List.mem_filter]
          rw [Array.getElem?_toList] at ho
          refine ⟨by simpa using hil, ?_⟩
          rw [hgd i hil, h2, ho]
          simp only [Option.map_some, Option.getD_some, Bool.not_false, Bool.true_and]
          exact (hafterE o).2 fun e he => by
            rcases h4 e he with h5 | h5
            · simp at h5
            · exact h3 e h5
        rw [hnone] at this; simp at this
      · have hall : ∀ i, i < ops.size → listed.getD i false = true := fun i hi => by
          cases hg : listed.getD i false with
          | true => rfl
          | false => exact (hex ⟨i, hcov' i hi, hg⟩).elim
        obtain ⟨log', l', H', r1, r2, r3⟩ := h.advance hlt hnd
        cases l' with
        | cons i l'' =>
          exfalso
          have hm : i ∈ plan := by rw [r1.pl]; simp
          have hmem := r1.sub i (hall i (by simpa using hlt i hm))
          rw [r1.pl, List.nodup_append] at hnd
          exact hnd.2.2 i (by simpa using hmem) i (by simp) rfl
        | nil =>
          have hfr : frE f (fun i => listed.getD i false) log' = frOf f log' := funext fun t => frE_get_log (t := t) fun e he _ => by
            have hm : e.i ∈ plan := by rw [r1.pl]; simp; exact ⟨e, he, rfl⟩
            exact hall e.i (by simpa using hlt _ hm)
          exact hR _ _ _ _ _ r1.rel r1.frel r1.ext (by rw [hfr]; exact r1.wd)
    · unfold Region.ready at hi
      rw [List.mem_filter] at hi
      obtain ⟨hi1, hi2⟩ := hi
      have hil : i < ops.size := by simpa using hi1
      have hoi : ops[i]? = some ops[i] := Array.getElem?_eq_getElem hil
      rw [hgd i hil, hoi] at hi2
      simp only [Option.map_some, Option.getD_some, Bool.and_eq_true, Bool.not_eq_true'] at hi2
      have hedge : ∀ o, ops[i]? = some o → ∀ e ∈ edgesOf o, listed.getD e false = true := fun o ho => by
        rw [hoi] at ho; simp only [Option.some.injEq] at ho; subst ho
        exact (hafterE _).1 hi2.2
      have hset : ∀ j, (listed.setIfInBounds i true).getD j false = setE (fun i => listed.getD i false) i j := fun j => by
        simp only [setE, Array.getD_eq_getD_getElem?, Array.getElem?_setIfInBounds]
        by_cases hj : i = j
        · subst hj; simp [show i < listed.size by omega]
        · rw [if_neg hj]; simp [Ne.symm hj]
      have hsetf : (fun j => (listed.setIfInBounds i true).getD j false) = setE (fun i => listed.getD i false) i := funext hset
      have hcl' : Closed ops.toList (fun j => (listed.setIfInBounds i true).getD j false = true) := by
        intro j o ho hj e he
        have hj' := (hset j).symm.trans hj
        have goalE : setE (fun i => listed.getD i false) i e = true → (listed.setIfInBounds i true).getD e false = true := fun hq => (hset e).trans hq
        apply goalE
        simp only [setE, Bool.or_eq_true, beq_iff_eq] at hj' ⊢
        refine .inr ?_
        rcases hj' with rfl | hj'
        · exact hedge o (by rw [Array.getElem?_toList] at ho; exact ho) e he
        · exact hcl j o ho hj' e he
      have next : ∀ φ' w' a' log' l' H', Inv P T n ops.toList f Q plan (setE (fun i => listed.getD i false) i) log' l' base φ₀ G w₀ φ' H' w' a' → wpAny P .any ops R fuel (listed.setIfInBounds i true) a' w' := by
        intro φ' w' a' log' l' H' hinv
        refine ih (listed.setIfInBounds i true) (left.filter (· != i)) log' l' φ' H' w' a' (by simpa using hsz) ?_ ?_ hcl' (by rw [hsetf]; exact hinv)
        · have : (left.filter (· != i)).length < left.length := by
            rw [List.length_filter_lt_length_iff_exists]
            exact ⟨i, (hleft i).2 ⟨hil, hi2.1⟩, by simp⟩
          omega
        · intro j
          rw [List.mem_filter, hleft, hset]
          simp only [setE, bne_iff_ne, ne_eq, Bool.or_eq_false_iff, beq_eq_false_iff_ne]
          constructor
          · rintro ⟨⟨h1, h2⟩, h3⟩; exact ⟨h1, h3, h2⟩
          · rintro ⟨h1, h3, h2⟩; exact ⟨⟨h1, h2⟩, h3⟩
      obtain ⟨log', l', H', r1, r2, r3⟩ := h.advance hlt hnd
      by_cases hin : i ∈ log'.map (·.i)
      · exact r1.pending hT hpw hcl hi2.1 hin hedge fun φ' w' a' hinv => next φ' w' a' log' l' H' hinv
      · have hil' : i ∈ l' := by
          have := hcov' i hil
          rw [r1.pl] at this
          rcases List.mem_append.1 this with h1 | h1
          · exact (hin (by simpa using h1)).elim
          · exact h1
        cases l' with
        | nil => simp at hil'
        | cons e l'' =>
          have hee := r3 e l'' rfl
          have hei : i = e := by
            rcases List.mem_cons.1 hil' with h1 | h1
            · exact h1
            · exfalso
              obtain ⟨le, hch⟩ := r1.ch
              simp only [chainOk, Bool.and_eq_true] at hch
              rw [if_pos hee] at hch
              obtain ⟨e', h5, h6⟩ := chainOk_mem l'' e hch.2 i h1
              have hE' := masks_sound ops.toList _ hcl i e' ops[i] (by rw [Array.getElem?_toList]; exact hoi) h6 (hedge _ hoi)
              have hm := r1.sub e' hE'
              rw [r1.pl, List.nodup_append] at hnd
              exact hnd.2.2 e' (by simpa using hm) e' (by simpa using h5) rfl
          subst hei
          exact r1.effect hT hpw hcl hi2.1 hee hedge fun φ' w' a' log'' H'' hinv => next φ' w' a' log'' l'' H'' hinv

/-- A region that draws its order. -/
theorem WX_draw (hT : TOk P T) (hm : P.follows .mixedOrders = true) {id : Nat} {ops : Array Oper} {fr : Fr} {H : Heap} {Q : Exit → Fr → Heap → Prop} {plan : List Nat} (hp : planOk ops.toList (masks ops.toList) plan = true)
    (h : WD P T n ops.toList (mkSteps ops.toList (masks ops.toList) [] plan) [] fr H (Q .normal)) : WX P n (.region id ops true) fr H Q := by
  intro base φ w a hR hf
  refine wp_region_any hm ?_
  have hp' := hp
  simp only [planOk, Bool.and_eq_true] at hp
  refine draw_run (f := fr) (Q := Q .normal) (plan := plan) (φ₀ := φ) (G := H) (w₀ := w) hT hp' (fun fr' H' φ' a' w' h1 h2 h3 h4 => ⟨fr', H', φ', h1, h2, h3, h4⟩) ops.size _ (List.range ops.size) [] plan φ H w.drew a (by simp) (by simp) (fun i => ?_) (fun i o ho hi => ?_)
    ⟨by simp, fun af e re heq => (by cases af <;> cases heq), fun i hi => ?_, ⟨none, hp.1.2⟩, h, hR.drew, hf, ⟨fun _ _ => rfl, Nat.le_refl _, (Below.refl _ _).drew, fun _ _ h => h, fun _ _ h => .inl h⟩⟩
  · simp only [List.mem_range, Array.getD_eq_getD_getElem?, Array.getElem?_replicate]
    constructor
    · intro hi; exact ⟨hi, by simp [hi]⟩
    · exact fun h => h.1
  · exfalso; simp [Array.getD_eq_getD_getElem?, Array.getElem?_replicate] at hi
    split at hi <;> simp at hi
  · exfalso; simp [Array.getD_eq_getD_getElem?, Array.getElem?_replicate] at hi
    split at hi <;> simp at hi
end
end Go.Proofs.PI

