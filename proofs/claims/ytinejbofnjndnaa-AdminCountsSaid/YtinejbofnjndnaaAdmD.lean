import Derived.Test.YtinejbofnjndnaaAdmB
set_option linter.unusedSimpArgs false
set_option linter.unusedVariables false
set_option maxRecDepth 100000
set_option maxHeartbeats 4000000
namespace Go.Proofs.Ytinejbofnjndnaa
open Go Go.Proofs Go.Proofs.PI
theorem u8_wfi {v : Int} (h : (Lit.int .u8 v).wf = true) : 0 ≤ v ∧ v < 256 := by
  obtain ⟨b, rfl⟩ := u8_wf h
  have := b.toNat_lt; omega
theorem u32_wfi {v : Int} (h : (Lit.int .u32 v).wf = true) : 0 ≤ v ∧ v < 4294967296 := by
  simp [Lit.wf, IntKind.min, IntKind.max, IntKind.signed, IntKind.bits] at h; omega
theorem inp_change {n : Nat} {x : List AV} (h : InpP T (n + 3) 44 x) : ∃ c : Chg, x = chgE.cells c ∧ c.Ok := by
  obtain ⟨parts, rfl, hl, hp⟩ := InpP.struct tk44 h
  obtain ⟨p0, p1, p2, p3, p4, p5, p6, rfl⟩ := len7 hl
  obtain ⟨parts2, rfl, hl2, hp2⟩ := InpP.struct tk42 (hp 2 _ _ rfl rfl)
  obtain ⟨i0, i1, i2, i3, i4, rfl⟩ := len5 hl2
  obtain ⟨s0, rfl, w0⟩ := InpP.int tk5 (hp 0 _ _ rfl rfl)
  obtain ⟨s1, rfl, -⟩ := InpP.int tk3 (hp 1 _ _ rfl rfl)
  obtain ⟨t0, rfl, -⟩ := InpP.str tk9 (hp2 0 _ _ rfl rfl)
  obtain ⟨t1, rfl, -⟩ := InpP.str tk9 (hp2 1 _ _ rfl rfl)
  obtain ⟨t2, rfl, x2⟩ := InpP.int tk26 (hp2 2 _ _ rfl rfl)
  obtain ⟨t3, rfl, -⟩ := InpP.int tk3 (hp2 3 _ _ rfl rfl)
  obtain ⟨t4, rfl, x4⟩ := InpP.int tk27 (hp2 4 _ _ rfl rfl)
  obtain ⟨s3, rfl, -⟩ := InpP.str tk9 (hp 3 _ _ rfl rfl)
  obtain ⟨s4, rfl, w4⟩ := InpP.int tk5 (hp 4 _ _ rfl rfl)
  obtain ⟨s5, rfl, -⟩ := InpP.int tk3 (hp 5 _ _ rfl rfl)
  obtain ⟨s6, rfl⟩ := InpP.bool tk4 (hp 6 _ _ rfl rfl)
  exact ⟨⟨s0, s1, t0, t1, t2, t3, t4, s3, s4, s5, s6⟩, rfl, ⟨u8_wfi w0, u32_wfi x2, u64_wf x4, u8_wfi w4⟩⟩
theorem inp_changes {n : Nat} {a : AV} (h : InpPV T (n + 4) 33 a) : ∃ l : List Chg, a = chgE.lst l ∧ (∀ c ∈ l, c.Ok) ∧ l.length ≤ 140737488355328 := by
  obtain ⟨xs, rfl, ho, -, hd⟩ := InpPV.slice (E := chgE) (Pr := Chg.Ok) tk33 (fun x hx => inp_change hx) h
  exact ⟨xs, rfl, ho, by have : xs.length * 112 ≤ reachBytes := hd _ td44; unfold reachBytes at this; omega⟩
theorem inp_item {n : Nat} {x : List AV} (h : InpP T (n + 2) 42 x) : ∃ c : Itm, x = itmE.cells c := by
  obtain ⟨parts2, rfl, hl2, hp2⟩ := InpP.struct tk42 h
  obtain ⟨i0, i1, i2, i3, i4, rfl⟩ := len5 hl2
  obtain ⟨t0, rfl, -⟩ := InpP.str tk9 (hp2 0 _ _ rfl rfl)
  obtain ⟨t1, rfl, -⟩ := InpP.str tk9 (hp2 1 _ _ rfl rfl)
  obtain ⟨t2, rfl, x2⟩ := InpP.int tk26 (hp2 2 _ _ rfl rfl)
  obtain ⟨t3, rfl, -⟩ := InpP.int tk3 (hp2 3 _ _ rfl rfl)
  obtain ⟨t4, rfl, x4⟩ := InpP.int tk27 (hp2 4 _ _ rfl rfl)
  exact ⟨⟨t0, t1, t2, t3, t4⟩, rfl⟩
theorem inp_stat {n : Nat} {x : List AV} (h : InpP T (n + 2) 47 x) : ∃ s : Stat, x = statE.cells s := by
  obtain ⟨parts2, rfl, hl2, hp2⟩ := InpP.struct tk47 h
  obtain ⟨i0, i1, i2, i3, i4, i5, rfl⟩ := len6 hl2
  obtain ⟨t0, rfl, -⟩ := InpP.int tk3 (hp2 0 _ _ rfl rfl)
  obtain ⟨t1, rfl, -⟩ := InpP.int tk3 (hp2 1 _ _ rfl rfl)
  obtain ⟨t2, rfl, -⟩ := InpP.int tk3 (hp2 2 _ _ rfl rfl)
  obtain ⟨t3, rfl, -⟩ := InpP.int tk3 (hp2 3 _ _ rfl rfl)
  obtain ⟨t4, rfl, -⟩ := InpP.int tk3 (hp2 4 _ _ rfl rfl)
  obtain ⟨t5, rfl, -⟩ := InpP.int tk3 (hp2 5 _ _ rfl rfl)
  exact ⟨⟨t0, t1, t2, t3, t4, t5⟩, rfl⟩
theorem inp_adm {n : Nat} {a : AV} (h : InpPV T (n + 4) 24 a) : ∃ x : Adm, a = x.av ∧ x.ts.length ≤ 140737488355328 := by
  obtain ⟨l, rfl, h'⟩ := h.agg tk24
  obtain ⟨parts, rfl, hl, hp⟩ := InpP.struct tk24 h'
  obtain ⟨p0, p1, rfl⟩ := len2 hl
  obtain ⟨s0, rfl, -, -, hd⟩ := InpP.slice (E := statE) (Pr := fun _ => True) tk22 (fun x hx => by obtain ⟨s, rfl⟩ := inp_stat hx; exact ⟨s, rfl, trivial⟩) (hp 0 _ _ rfl rfl)
  obtain ⟨s1, rfl⟩ := InpP.bool tk4 (hp 1 _ _ rfl rfl)
  exact ⟨⟨s0, s1⟩, rfl, by have : s0.length * 48 ≤ reachBytes := hd _ td47; unfold reachBytes at this; show s0.length ≤ _; omega⟩
theorem inp_res {n : Nat} {a : AV} (h : InpPV T (n + 4) 32 a) : ∃ x : Res, a = x.av := by
  obtain ⟨l, rfl, h'⟩ := h.agg tk32
  obtain ⟨parts, rfl, hl, hp⟩ := InpP.struct tk32 h'
  obtain ⟨p0, p1, p2, rfl⟩ := len3 hl
  obtain ⟨s0, rfl, -⟩ := InpP.int tk5 (hp 0 _ _ rfl rfl)
  obtain ⟨s1, rfl, -, -, hd⟩ := InpP.slice (E := itmE) (Pr := fun _ => True) tk30 (fun x hx => by obtain ⟨s, rfl⟩ := inp_item hx; exact ⟨s, rfl, trivial⟩) (hp 1 _ _ rfl rfl)
  obtain ⟨s2, rfl, -⟩ := InpP.int tk27 (hp 2 _ _ rfl rfl)
  exact ⟨⟨s0, s1, s2⟩, rfl⟩
def Stat.le (a b : Stat) : Prop := b.gets ≥ a.gets ∧ b.hits ≥ a.hits ∧ b.puts ≥ a.puts ∧ b.del ≥ a.del ∧ b.evi ≥ a.evi ∧ b.ref ≥ a.ref
theorem le_addv {s d : Stat} (h : s.rng) (hd : d.pos) : s.le (s.addv d) := by
  obtain ⟨h1, h2, h3, h4, h5, h6⟩ := h
  obtain ⟨g1, g2, g3, g4, g5, g6⟩ := hd
  simp only [Stat.addv, Stat.le, mx, inC] at *
  omega
theorem up_ok (a b : Stat) (h : a.le b) (H : Heap) : WC Try.prog 12 [a.av, b.av] H fun r H' => r = .bool true ∧ H' = H := by
  refine WC_val fun K hK => ?_
  obtain ⟨h1, h2, h3, h4, h5, h6⟩ := h
  unfold Stat.av
  refine WC_of_body hT Try.func12 rfl (by simp [Try.f12]) (by simp [Try.f12]) (wx_sound hT _ ?_)
  simp only [Try.f12]
  repeat' (first | simp only [go_sem, Nat.reduceLT, Nat.reduceEqDiff, Nat.reduceAdd, Nat.reduceMul, Nat.reduceSub, Nat.reduceLeDiff, Int.reduceToNat, Int.reduceNeg, Int.reduceLT, Int.reduceLE, Int.reduceEq, reduceCtorEq, Int.natCast_zero, Int.natCast_one, Int.cast_ofNat_Int, Bool.not_not, false_eq_decide, true_eq_decide, hread0, hreadk, read_cons0, read_consk, astore_h0, astore_hk, hget0, hgetk, hset0, hsetk, hlen, hcat, Nat.add_assoc, Nat.add_zero, Nat.zero_add, List.length_append, and_true, true_and, AV.flat, *, -hK] | with_reducible refine IfB_dec (fun h => ?_) (fun h => ?_) | with_reducible refine Guard_dec (fun h => ?_) (fun h => ?_) | with_reducible refine Guard_ndec (fun h => ?_) (fun h => ?_) | with_reducible refine Guard_not (fun h => ?_) (fun h => ?_) | with_reducible refine IfB_ndec (fun h => ?_) (fun h => ?_) | with_reducible refine IfB_not (fun h => ?_) (fun h => ?_) | with_reducible refine Guard_split (fun h => ?_) (fun h => ?_) | with_reducible refine IfB_split (fun h => ?_) (fun h => ?_))
  exact hK _ _ (.bool _) (Keep.app _ _ _)
theorem countL_cases (a : Adm) (c : Cmd) (r : Res) (l : List Chg) : (¬ (countL a c r l).2 = 0 ∧ (countL a c r l).1 = adm0) ∨ (a.may ∧ countL a c r l = (⟨moreL a.ts (cntD c r l), a.dr⟩, 0)) := by
  unfold countL
  split
  · exact .inl ⟨by simp, rfl⟩
  · rename_i h
    split
    · exact .inl ⟨by simp, rfl⟩
    · split
      · rename_i h2; exact .inl ⟨h2, rfl⟩
      · exact .inr ⟨Classical.not_not.1 h, rfl⟩
theorem comD_pos (c : Cmd) (r : Res) (t : Nat) : (comD c r t).pos ∧ (comD c r t).hits ≤ (comD c r t).gets := cmdT_pos _ _ (cmdD_pos _ _ _ _)
theorem cntD_pos (c : Cmd) (r : Res) (l : List Chg) (t : Nat) : (cntD c r l t).pos ∧ (cntD c r l t).hits ≤ (cntD c r l t).gets := add_pos (comD_pos c r t) (sumT_pos t l)
theorem moreD_may {a : Adm} {c : Cmd} {r : Res} {l : List Chg} (h : a.may) : (⟨moreL a.ts (cntD c r l), a.dr⟩ : Adm).may :=
  ⟨by show 1 ≤ (moreL _ _).length; rw [moreL_len]; exact h.1, by show (moreL _ _).length ≤ 4; rw [moreL_len]; exact h.2.1, moreL_may h.2.2 fun t => cntD_pos c r l t⟩
theorem sumT_gets (t : Nat) (l : List Chg) : (sumT t l).gets = 0 := by
  have : ∀ (l : List Chg) (s : Stat), s.gets = 0 → (l.foldl (fun s x => s.add (chgT t x)) s).gets = 0 := by
    intro l
    induction l with
    | nil => exact fun s h => h
    | cons x l ih =>
      intro s h
      rw [List.foldl_cons]
      refine ih _ ?_
      show s.gets + (chgT t x).gets = 0
      rw [h]
      unfold chgT chgD stat0
      repeat' split
      all_goals rfl
  exact this l stat0 rfl
theorem sumT_none {t : Nat} {l : List Chg} (h : ∀ x ∈ l, ¬ x.ten = t) : sumT t l = stat0 := by
  have : ∀ (l : List Chg) (s : Stat), (∀ x ∈ l, ¬ x.ten = t) → l.foldl (fun s x => s.add (chgT t x)) s = s := by
    intro l
    induction l with
    | nil => exact fun s h => rfl
    | cons x l ih =>
      intro s h
      rw [List.foldl_cons, ih _ fun y hy => h y (.tail _ hy)]
      unfold chgT; rw [if_neg (h x (.head _))]; simp [Stat.add, stat0]
  exact this l stat0 h
def touchB (c : Cmd) (l : List Chg) (t : Nat) : Bool := decide (c.ten = t) || l.any fun x => decide (x.ten = (t : Int))
theorem goes_same {a : Adm} {c : Cmd} {r : Res} {l : List Chg} (h : a.may) {t : Nat} (ht : t < a.ts.length) (hn : touchB c l t = false) : a.ts[t].addv (cntD c r l t) = a.ts[t] := by
  unfold touchB at hn
  simp only [Bool.or_eq_false_iff, decide_eq_false_iff_not, List.any_eq_false, decide_eq_true_eq] at hn
  unfold cntD comD cmdT
  rw [if_neg hn.1, sumT_none hn.2]
  exact addv_zero _ (h.2.2 _ (List.getElem_mem ht)).rng
theorem goes_gets {a : Adm} {c : Cmd} {r : Res} {l : List Chg} (h : a.may) {t : Nat} (ht : t < a.ts.length) (hn : ¬ c.ten = t) : (a.ts[t].addv (cntD c r l t)).gets = a.ts[t].gets := by
  have hr := (h.2.2 _ (List.getElem_mem ht)).rng.1
  unfold inC at hr
  unfold cntD comD cmdT
  rw [if_neg hn]
  show mx (a.ts[t].gets + (0 + (sumT t l).gets)) = _
  rw [sumT_gets]; unfold mx; omega
theorem touch_step {c : Cmd} {l : List Chg} {t i : Nat} (h : i < l.length) : touchB c (l.take (i + 1)) t = (touchB c (l.take i) t || decide (l[i].ten = (t : Int))) := by
  unfold touchB; rw [List.take_succ_eq_append_getElem h, List.any_append, Bool.or_assoc]; simp
end Go.Proofs.Ytinejbofnjndnaa
