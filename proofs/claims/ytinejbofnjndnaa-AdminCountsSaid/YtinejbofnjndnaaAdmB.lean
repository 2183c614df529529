import Derived.Test.YtinejbofnjndnaaAdmA
set_option linter.unusedSimpArgs false
set_option linter.unusedVariables false
set_option maxRecDepth 100000
set_option maxHeartbeats 4000000
namespace Go.Proofs.Ytinejbofnjndnaa
open Go Go.Proofs Go.Proofs.PI
structure Itm where
  key : List UInt8
  val : List UInt8
  flags : Int
  due : Int
  uniq : Int
def Itm.cs (x : Itm) : List AV := [.str x.key, .str x.val, .int .u32 x.flags, .int .i64 x.due, .int .u64 x.uniq]
def itmE : Enc Itm := ⟨5, Itm.cs, fun _ => rfl, fun x a ha => by
  simp only [Itm.cs, List.mem_cons, List.not_mem_nil, or_false] at ha; rcases ha with rfl | rfl | rfl | rfl | rfl <;> rfl⟩
structure Res where
  kind : Int
  its : List Itm
  num : Int
def Res.av (r : Res) : AV := .agg [.int .u8 r.kind, itmE.lst r.its, .int .u64 r.num]
def Res.cs (r : Res) : List AV := [.int .u8 r.kind, itmE.lst r.its, .int .u64 r.num]
def comD (c : Cmd) (r : Res) (t : Nat) : Stat := cmdT c.ten (cmdD c.kind c.keys.length r.kind r.its.length) t
def cntD (c : Cmd) (r : Res) (l : List Chg) (t : Nat) : Stat := (comD c r t).add (sumT t l)
def adm0 : Adm := ⟨[], false⟩
open Classical in
noncomputable def countL (a : Adm) (c : Cmd) (r : Res) (l : List Chg) : Adm × Int :=
  if ¬ a.may then (adm0, 8) else if cmdB c = false then (adm0, 100) else if (changesL l).2 ≠ 0 then (adm0, (changesL l).2) else (⟨moreL a.ts (cntD c r l), a.dr⟩, 0)
theorem changes_val (l : List Chg) (hl : l.length ≤ 140737488355328) (ho : ∀ c ∈ l, c.Ok) (H : Heap) : WC Try.prog 27 [chgE.lst l] H fun r H' => r = .tup [Enc.u8.lst (changesL l).1, .int .i64 (changesL l).2] ∧ H' = H :=
  WC_froze (Q := fun r => r = _) ((changes_own l hl ho H).mono fun r H' ⟨⟨b, h1, h2⟩, h3⟩ => ⟨_, h1 ▸ Thaw.tup_row ⟨Thaw.ob h2, .int _ _, trivial⟩, h3, rfl⟩)
structure CntI (H G : Heap) (v : AV) (dr : Bool) (C R : List AV) (ts : List Stat) : Prop where
  ow : OwnE statE (H.length + 4) G v ts
  ba : G[H.length]? = some ⟨[v, .bool dr], 0, .full⟩
  bc : G[H.length + 1]? = some ⟨C, 0, .full⟩
  br : G[H.length + 2]? = some ⟨R, 0, .full⟩
  b8 : G[H.length + 3]? = some ⟨[.nils, .bool false], 0, .full⟩
  ke : Keep none H G
theorem CntI.up {H G G' : Heap} {v : AV} {dr : Bool} {C R : List AV} {ts ts' : List Stat} (h : CntI H G v dr C R ts) (o : OwnE statE (H.length + 4) G' v ts') (k : Keep v.blk G G') : CntI H G' v dr C R ts' := by
  have hne : ∀ q, q < H.length + 4 → v.blk ≠ some q := fun q hq e => by have := h.ow.ge e; omega
  refine ⟨o, k.get h.ba (hne _ (by omega)), k.get h.bc (hne _ (by omega)), k.get h.br (hne _ (by omega)), k.get h.b8 (hne _ (by omega)), ⟨Nat.le_trans h.ke.len k.len, fun b hb _ => ?_⟩⟩
  rw [k.at_ b (Nat.lt_of_lt_of_le hb h.ke.len) (hne b (by omega))]
  exact h.ke.at_ b hb (by simp)
theorem CntI.keep {H G G' : Heap} {v : AV} {dr : Bool} {C R : List AV} {ts : List Stat} (h : CntI H G v dr C R ts) (k : Keep none G G') : CntI H G' v dr C R ts :=
  ⟨h.ow.keep k (fun b hb => by cases hb), k.get h.ba (by simp), k.get h.bc (by simp), k.get h.br (by simp), k.get h.b8 (by simp), h.ke.trans k⟩
theorem CntI.ups {H G : Heap} {v : AV} {dr : Bool} {C R : List AV} {ts : List Stat} (h : CntI H G v dr C R ts) {i : Nat} (hi : i < ts.length) (j : Nat) (hj : j < 6) (hr : ts[i].rng) (n : Nat) (hn : n ≤ 140737488355328) :
    ∃ b p, aindexAddr T 22 v (.int .i64 i) = some (.ptr b p) ∧ WC Try.prog 29 [.ptr b (p + j), .int .i64 n] G fun r G' => r = .tup [] ∧ CntI H G' v dr C R (ts.set i (ts[i].addv (unitS j n))) := by
  obtain ⟨b, p, e1, e2, e3, w⟩ := up_spec h.ow hi j hj hr n hn
  exact ⟨b, p, e1, w.mono fun r G' ⟨h1, h2, h3⟩ => ⟨h1, h.up h2 h3⟩⟩
theorem cmdB_ten {c : Cmd} (h : cmdB c = true) : 0 ≤ c.ten ∧ c.ten < 4 := by
  unfold cmdB at h
  simp only [Bool.and_eq_true, decide_eq_true_eq] at h
  exact ⟨h.1.1.2.2.1, h.1.1.2.2.2⟩
theorem moreL_one {ts : List Stat} {k : Nat} (hk : k < ts.length) (hs : ∀ s ∈ ts, s.may) {f : Nat → Stat} {d : Stat} (hd : f k = d) (h : ∀ t, t ≠ k → f t = stat0) : ts.set k (ts[k].addv d) = moreL ts f := by
  have h0 := moreL_zero (f := fun _ => stat0) hs (fun _ _ => rfl)
  have := moreL_set (ts := ts) (f := fun _ => stat0) (g := f) hk (fun t ht => h t ht)
  rw [h0, hd] at this
  exact this
theorem set2 {ts : List Stat} {k : Nat} (hk : k < ts.length) (d e : Stat) (he : e.pos) (h' : k < (ts.set k (ts[k].addv d)).length) : (ts.set k (ts[k].addv d)).set k ((ts.set k (ts[k].addv d))[k].addv e) = ts.set k (ts[k].addv (d.add e)) := by
  rw [List.getElem_set_self, List.set_set, addv_addv _ _ _ he]
theorem set_zero {ts : List Stat} {k : Nat} (hk : k < ts.length) (h : ts[k].rng) : ts.set k (ts[k].addv stat0) = ts := by
  rw [addv_zero _ h, List.set_getElem_self]
theorem count_own (a : Adm) (c : Cmd) (r : Res) (l : List Chg) (hn : a.ts.length ≤ 1000000) (hk : c.keys.length ≤ 1000) (hri : r.its.length ≤ 1000) (hl : l.length ≤ 140737488355328) (ho : ∀ x ∈ l, x.Ok) (H : Heap) :
    WC Try.prog 10 [a.av, c.av, r.av, chgE.lst l] H fun w H' => (∃ v, w = .tup [.agg [v, .bool (countL a c r l).1.dr], .int .i64 (countL a c r l).2] ∧ OwnE statE H.length H' v (countL a c r l).1.ts) ∧ Keep none H H' := by
  refine WC_of_K fun K hK => ?_
  have c1 := fun J => admCheck_spec a (by omega) J
  have c2 := fun J => ordCheck_spec c hk J
  have c3 := fun J => changes_val l hl ho J
  unfold ordE at c2
  unfold countL at hK
  by_cases hm : a.may
  rotate_left
  · rw [if_pos hm] at hK
    rw [admE_bad hm] at c1
    unfold Adm.av Cmd.av Res.av at *
    refine WC_of_body hT Try.func10 rfl (by simp [Try.f10]) (by simp [Try.f10]) (wx_sound hT _ ?_)
    simp only [Try.f10]
    repeat' (first | simp only [go_sem, Nat.reduceLT, Nat.reduceEqDiff, Nat.reduceAdd, Nat.reduceMul, Nat.reduceSub, Nat.reduceLeDiff, Int.reduceToNat, Int.reduceNeg, Int.reduceLT, Int.reduceLE, Int.reduceEq, reduceCtorEq, Int.natCast_zero, Int.natCast_one, Int.cast_ofNat_Int, Bool.not_not, false_eq_decide, true_eq_decide, hread0, hreadk, read_cons0, read_consk, astore_h0, astore_hk, hget0, hgetk, hset0, hsetk, hlen, hcat, Nat.add_assoc, Nat.add_zero, Nat.zero_add, List.length_append, and_true, true_and, AV.flat, *, -hK, -c1, -c2, -c3, -hm] | refine WC.call (c1 _) ?_ | with_reducible refine IfB_dec (fun h => ?_) (fun h => ?_) | with_reducible refine Guard_dec (fun h => ?_) (fun h => ?_) | with_reducible refine Guard_ndec (fun h => ?_) (fun h => ?_) | with_reducible refine Guard_not (fun h => ?_) (fun h => ?_) | with_reducible refine IfB_ndec (fun h => ?_) (fun h => ?_) | with_reducible refine IfB_not (fun h => ?_) (fun h => ?_) | with_reducible refine Guard_split (fun h => ?_) (fun h => ?_) | with_reducible refine IfB_split (fun h => ?_) (fun h => ?_))
    exact hK _ _ ⟨⟨.nils, rfl, OwnE.nils _ _ _⟩, Keep.app _ _ _⟩
  rw [if_neg (fun h => h hm)] at hK
  rw [admE_ok hm] at c1
  cases hcB : cmdB c with
  | false =>
    rw [if_pos hcB] at hK
    rw [hcB] at c2
    unfold Adm.av Cmd.av Res.av at *
    refine WC_of_body hT Try.func10 rfl (by simp [Try.f10]) (by simp [Try.f10]) (wx_sound hT _ ?_)
    simp only [Try.f10]
    repeat' (first | simp only [go_sem, Nat.reduceLT, Nat.reduceEqDiff, Nat.reduceAdd, Nat.reduceMul, Nat.reduceSub, Nat.reduceLeDiff, Int.reduceToNat, Int.reduceNeg, Int.reduceLT, Int.reduceLE, Int.reduceEq, reduceCtorEq, Int.natCast_zero, Int.natCast_one, Int.cast_ofNat_Int, Bool.not_not, false_eq_decide, true_eq_decide, hread0, hreadk, read_cons0, read_consk, astore_h0, astore_hk, hget0, hgetk, hset0, hsetk, hlen, hcat, Nat.add_assoc, Nat.add_zero, Nat.zero_add, List.length_append, and_true, true_and, AV.flat, *, -hK, -c1, -c2, -c3, -hm, -hcB] | refine WC.call (c1 _) ?_ | refine WC.call (c2 _) ?_ | with_reducible refine IfB_dec (fun h => ?_) (fun h => ?_) | with_reducible refine Guard_dec (fun h => ?_) (fun h => ?_) | with_reducible refine Guard_ndec (fun h => ?_) (fun h => ?_) | with_reducible refine Guard_not (fun h => ?_) (fun h => ?_) | with_reducible refine IfB_ndec (fun h => ?_) (fun h => ?_) | with_reducible refine IfB_not (fun h => ?_) (fun h => ?_) | with_reducible refine Guard_split (fun h => ?_) (fun h => ?_) | with_reducible refine IfB_split (fun h => ?_) (fun h => ?_))
    exact hK _ _ ⟨⟨.nils, rfl, OwnE.nils _ _ _⟩, Keep.app _ _ _⟩
  | true =>
  rw [if_neg (by rw [hcB]; simp)] at hK
  rw [hcB, if_pos rfl] at c2
  by_cases he : (changesL l).2 = 0
  rotate_left
  · rw [if_pos he] at hK
    generalize changesL l = ce at *
    obtain ⟨q, e⟩ := ce
    simp only at he hK c3
    unfold Adm.av Cmd.av Res.av at *
    refine WC_of_body hT Try.func10 rfl (by simp [Try.f10]) (by simp [Try.f10]) (wx_sound hT _ ?_)
    simp only [Try.f10]
    repeat' (first | simp only [go_sem, Nat.reduceLT, Nat.reduceEqDiff, Nat.reduceAdd, Nat.reduceMul, Nat.reduceSub, Nat.reduceLeDiff, Int.reduceToNat, Int.reduceNeg, Int.reduceLT, Int.reduceLE, Int.reduceEq, reduceCtorEq, Int.natCast_zero, Int.natCast_one, Int.cast_ofNat_Int, Bool.not_not, false_eq_decide, true_eq_decide, hread0, hreadk, read_cons0, read_consk, astore_h0, astore_hk, hget0, hgetk, hset0, hsetk, hlen, hcat, Nat.add_assoc, Nat.add_zero, Nat.zero_add, List.length_append, and_true, true_and, AV.flat, *, -hK, -c1, -c2, -c3, -hm, -hcB] | refine WC.call (c1 _) ?_ | refine WC.call (c2 _) ?_ | refine WC.call (c3 _) ?_ | with_reducible refine IfB_dec (fun h => ?_) (fun h => ?_) | with_reducible refine Guard_dec (fun h => ?_) (fun h => ?_) | with_reducible refine Guard_ndec (fun h => ?_) (fun h => ?_) | with_reducible refine Guard_not (fun h => ?_) (fun h => ?_) | with_reducible refine IfB_ndec (fun h => ?_) (fun h => ?_) | with_reducible refine IfB_not (fun h => ?_) (fun h => ?_) | with_reducible refine Guard_split (fun h => ?_) (fun h => ?_) | with_reducible refine IfB_split (fun h => ?_) (fun h => ?_))
    exact hK _ _ ⟨⟨.nils, rfl, OwnE.nils _ _ _⟩, Keep.app _ _ _⟩
  rw [if_neg (fun h => h he)] at hK
  rw [he] at c3
  have hok := (changesL_ok (l := l) (b := (changesL l).1) (Prod.ext rfl he)).2.1
  have hfa : ∀ x ∈ l, (0 ≤ x.ten ∧ x.ten < 4) := fun x hx => (may_facts (ho x hx) (by rw [List.all_eq_true] at hok; exact hok x hx)).2.1
  have hten := cmdB_ten hcB
  generalize (changesL l).1 = q at *
  clear he hok hcB
  have tw := fun J => twin_own a hn J
  unfold Adm.av Cmd.av Res.av at *
  refine WC_of_body hT Try.func10 rfl (by simp [Try.f10]) (by simp [Try.f10]) (wx_sound hT _ ?_)
  simp only [Try.f10]
  repeat' (first | simp only [go_sem, Nat.reduceLT, Nat.reduceEqDiff, Nat.reduceAdd, Nat.reduceMul, Nat.reduceSub, Nat.reduceLeDiff, Int.reduceToNat, Int.reduceNeg, Int.reduceLT, Int.reduceLE, Int.reduceEq, reduceCtorEq, Int.natCast_zero, Int.natCast_one, Int.cast_ofNat_Int, Bool.not_not, false_eq_decide, true_eq_decide, hread0, hreadk, read_cons0, read_consk, astore_h0, astore_hk, hget0, hgetk, hset0, hsetk, hlen, hcat, Nat.add_assoc, Nat.add_zero, Nat.zero_add, List.length_append, and_true, true_and, AV.flat, *, -hK, -c1, -c2, -c3, -hm, -hfa, -tw] | refine WC.call (c1 _) ?_ | refine WC.call (c2 _) ?_ | refine WC.call (c3 _) ?_ | with_reducible refine IfB_dec (fun h => ?_) (fun h => ?_) | with_reducible refine Guard_dec (fun h => ?_) (fun h => ?_) | with_reducible refine Guard_ndec (fun h => ?_) (fun h => ?_) | with_reducible refine Guard_not (fun h => ?_) (fun h => ?_) | with_reducible refine IfB_ndec (fun h => ?_) (fun h => ?_) | with_reducible refine IfB_not (fun h => ?_) (fun h => ?_) | with_reducible refine Guard_split (fun h => ?_) (fun h => ?_) | with_reducible refine IfB_split (fun h => ?_) (fun h => ?_))
  refine (tw _).mono ?_
  rintro w H1 ⟨⟨v, rfl, o⟩, k0⟩
  have hbA := k0.get (b := H.length) (B := ⟨[statE.lst a.ts, .bool a.dr], 0, .full⟩) (by rw [hget0]; rfl) (by simp)
  have hbC := k0.get (b := H.length + 1) (B := ⟨c.cs, 0, .full⟩) (by rw [hgetk]; rfl) (by simp)
  have hbR := k0.get (b := H.length + 2) (B := ⟨r.cs, 0, .full⟩) (by rw [hgetk]; rfl) (by simp)
  have hb8 := k0.get (b := H.length + 3) (B := ⟨[.nils, .bool false], 0, .full⟩) (by rw [hgetk]; rfl) (by simp)
  have kl := k0.len
  simp only [List.length_append, List.length_cons, List.length_nil] at kl
  have hgen : ∀ b, v.blk = some b → H.length + 4 ≤ b := fun b hb => by have := o.ge hb; simpa using this
  have I0 : CntI H (List.set H1 H.length ⟨[v, .bool a.dr], 0, .full⟩) v a.dr c.cs r.cs a.ts := by
    refine ⟨OwnE.keep (Own.mono o (by simp)) (Keep.of_set rfl) (fun b hb e => by cases hb; have := hgen _ e; omega), List.getElem?_set_self (by omega), ?_, ?_, ?_, ⟨by simp; omega, fun b hb _ => ?_⟩⟩
    · rw [List.getElem?_set_ne (by omega)]; exact hbC
    · rw [List.getElem?_set_ne (by omega)]; exact hbR
    · rw [List.getElem?_set_ne (by omega)]; exact hb8
    · rw [List.getElem?_set_ne (by omega), k0.at_ b (by simp; omega) (by simp), List.getElem?_append_left hb]
  clear hbC hbR hb8 tw c1 c2 c3 o k0
  unfold Cmd.cs Res.cs at I0
  have hrng : ∀ (i : Nat) (h : i < a.ts.length), a.ts[i].rng := fun i h => (hm.2.2 _ (List.getElem_mem h)).rng
  have hv := I0.ow.one
  by_cases ht : c.ten < (a.ts.length : Int)
  rotate_left
  · have IJ := I0
    rw [← moreL_zero (f := comD c r) hm.2.2 (fun t h => by unfold comD cmdT; rw [if_neg (by omega)])] at IJ
    have hv0 := I0.ow.one
    have al0 := I0.ow.alen (by decide) tk22
    have ba0 := I0.ba
    have bc0 := I0.bc
    have br0 := I0.br
    have b80 := I0.b8
    repeat' (first | simp only [go_sem, Nat.reduceLT, Nat.reduceEqDiff, Nat.reduceAdd, Nat.reduceMul, Nat.reduceSub, Nat.reduceLeDiff, Int.reduceToNat, Int.reduceNeg, Int.reduceLT, Int.reduceLE, Int.reduceEq, reduceCtorEq, Int.natCast_zero, Int.natCast_one, Int.cast_ofNat_Int, Bool.not_not, false_eq_decide, true_eq_decide, hread0, hreadk, read_cons0, read_consk, astore_h0, astore_hk, hget0, hgetk, hset0, hsetk, hlen, hcat, Nat.add_assoc, Nat.add_zero, Nat.zero_add, List.length_append, and_true, true_and, AV.flat, hbA, get_app hbA, read_get hbA, read_app hbA, astore_get hbA, astore_app hbA, get_set hbA, get_set_app hbA, read_set hbA, read_set_app hbA, astore_set hbA, astore_set_app hbA, List.set_set, hget0s, hgetks, hread0s, hreadks, List.length_set, ba0, get_app ba0, read_get ba0, read_app ba0, bc0, get_app bc0, read_get bc0, read_app bc0, br0, get_app br0, read_get br0, read_app br0, hv0, one_solid hv0, one_cells hv0, *, -hK, -hm, -hfa, -hrng, -IJ, -I0] | with_reducible refine IfB_dec (fun h => ?_) (fun h => ?_) | with_reducible refine Guard_dec (fun h => ?_) (fun h => ?_) | with_reducible refine Guard_ndec (fun h => ?_) (fun h => ?_) | with_reducible refine Guard_not (fun h => ?_) (fun h => ?_) | with_reducible refine IfB_ndec (fun h => ?_) (fun h => ?_) | with_reducible refine IfB_not (fun h => ?_) (fun h => ?_) | with_reducible refine Guard_split (fun h => ?_) (fun h => ?_) | with_reducible refine IfB_split (fun h => ?_) (fun h => ?_))
    clear hv0 al0 ba0 bc0 br0 b80
    refine WX_loopS [4, 8, 14, 94, 95] (fun q fr' H' => ∃ i : Nat, q = l.length - i ∧ i ≤ l.length ∧ fr'.get 96 = .int .i64 i ∧ CntI H H' v a.dr c.cs r.cs (moreL a.ts fun t => (comD c r t).add (sumT t (l.take i)))) l.length ⟨0, rfl, by omega, by simp only [go_sem, Nat.reduceLT, Nat.reduceEqDiff, Nat.reduceAdd, Nat.reduceMul, Nat.reduceSub, Nat.reduceLeDiff, Int.reduceToNat, Int.reduceNeg, Int.reduceLT, Int.reduceLE, Int.reduceEq, reduceCtorEq]; rfl, by rw [show (fun t => (comD c r t).add (sumT t (l.take 0))) = comD c r by funext t; simp [sumT, stat0, Stat.add]]; exact IJ⟩ ?_
    clear IJ
    rintro q fr' G A R hA hs hg hR ⟨i, rfl, hi, f96, I⟩
    have s4 := hg 4 (by decide)
    have s8 := hg 8 (by decide)
    have s14 := hg 14 (by decide)
    have s94 := hg 94 (by decide)
    have s95 := hg 95 (by decide)
    simp only [Fr.get_put, Fr.get_init, List.getD_cons_zero, List.getD_cons_succ, Nat.reduceEqDiff, if_true, if_false] at s4 s8 s14 s94 s95
    refine wx_sound hT _ ?_
    by_cases hlt : i < l.length
    rotate_left
    · have i3 : ¬ (i : Int) < l.length := by omega
      rw [show i = l.length by omega, List.take_length] at I
      have hvx := I.ow.one
      have alx := I.ow.alen (by decide) tk22
      have bax := I.ba
      have bcx := I.bc
      have brx := I.br
      have b8x := I.b8
      have hne : ∀ b, v.blk = some b → H.length + 4 ≤ b := fun b hb => I.ow.ge hb
      have hle := I.ke.len
      clear hR hA
      repeat' (first | simp only [go_sem, Nat.reduceLT, Nat.reduceEqDiff, Nat.reduceAdd, Nat.reduceMul, Nat.reduceSub, Nat.reduceLeDiff, Int.reduceToNat, Int.reduceNeg, Int.reduceLT, Int.reduceLE, Int.reduceEq, reduceCtorEq, Int.natCast_zero, Int.natCast_one, Int.cast_ofNat_Int, Bool.not_not, false_eq_decide, true_eq_decide, hread0, hreadk, read_cons0, read_consk, astore_h0, astore_hk, hget0, hgetk, hset0, hsetk, hlen, hcat, Nat.add_assoc, Nat.add_zero, Nat.zero_add, List.length_append, and_true, true_and, AV.flat, b8x, get_app b8x, read_get b8x, read_app b8x, astore_get b8x, astore_app b8x, get_set b8x, get_set_app b8x, read_set b8x, read_set_app b8x, astore_set b8x, astore_set_app b8x, List.set_set, hget0s, hgetks, hread0s, hreadks, List.length_set, bax, get_app bax, read_get bax, read_app bax, hvx, one_solid hvx, one_cells hvx, *, -hK, -hm, -hfa, -hrng, -I, -hne, -bcx, -brx] | with_reducible refine IfB_dec (fun h => ?_) (fun h => ?_) | with_reducible refine Guard_dec (fun h => ?_) (fun h => ?_) | with_reducible refine Guard_ndec (fun h => ?_) (fun h => ?_) | with_reducible refine Guard_not (fun h => ?_) (fun h => ?_) | with_reducible refine IfB_ndec (fun h => ?_) (fun h => ?_) | with_reducible refine IfB_not (fun h => ?_) (fun h => ?_) | with_reducible refine Guard_split (fun h => ?_) (fun h => ?_) | with_reducible refine IfB_split (fun h => ?_) (fun h => ?_))
      refine hK _ _ ⟨⟨v, rfl, OwnE.keep (Own.mono I.ow (by omega)) (Keep.of_set rfl) (fun b hb e => by cases hb; have := hne _ e; omega)⟩, ⟨by simp; omega, fun b hb _ => by rw [List.getElem?_set_ne (by omega)]; exact I.ke.at_ b hb (by simp)⟩⟩
    have i3 : (i : Int) < l.length := by omega
    have e1 := at_enc (E := chgE) (T := T) (k := .i64) se33 hlt rfl
    have e3 := inc_id hlt hl
    obtain ⟨hx0, hx4⟩ := hfa l[i] (List.getElem_mem hlt)
    have I1 := I.keep (Keep.snoc none G (⟨[.int .u8 l[i].kind, .int .i64 l[i].ten, .str l[i].ikey, .str l[i].ival, .int .u32 l[i].ifl, .int .i64 l[i].idue, .int .u64 l[i].iuniq, .str l[i].key, .int .u8 l[i].why, .int .i64 l[i].to, .bool l[i].prim], 0, .full⟩ : Blk))
    have hvx := I.ow.one
    have alx := I.ow.alen (by decide) tk22
    have bax := I.ba
    have bcx := I.bc
    have brx := I.br
    have b8x := I.b8
    rw [moreL_len] at alx
    have hst : ∀ t, sumT t (l.take (i + 1)) = (sumT t (l.take i)).add (chgT t l[i]) := fun t => by rw [List.take_succ_eq_append_getElem hlt, sumT_snoc]
    have back : ∀ fr2 J, A fr2 → fr2.get 96 = .int .i64 ((i + 1 : Nat) : Int) → CntI H J v a.dr c.cs r.cs (moreL a.ts fun t => (comD c r t).add (sumT t (l.take (i + 1)))) → R fr2 J := fun fr2 J ha g1 g2 => hR fr2 J ha (l.length - (i + 1)) (by omega) ⟨i + 1, rfl, by omega, g1, g2⟩
    clear hR
    generalize l[i] = x at *
    obtain ⟨kd, tn, ik, iv, fl, du, un, ky, wy, to, pr⟩ := x
    simp only at hx0 hx4 I1
    rw [chgE_cells] at e1
    simp only at e1
    by_cases ht2 : tn ≥ (a.ts.length : Int)
    · have I2 := I1
      rw [moreL_congr (f := fun t => (comD c r t).add (sumT t (l.take i))) (g := fun t => (comD c r t).add (sumT t (l.take (i + 1)))) (fun t h => by rw [hst, show chgT t ⟨kd, tn, ik, iv, fl, du, un, ky, wy, to, pr⟩ = stat0 by unfold chgT; rw [if_neg (by show ¬ tn = _; omega)]]; simp [Stat.add, stat0])] at I2
      repeat' (first | simp only [go_sem, Nat.reduceLT, Nat.reduceEqDiff, Nat.reduceAdd, Nat.reduceMul, Nat.reduceSub, Nat.reduceLeDiff, Int.reduceToNat, Int.reduceNeg, Int.reduceLT, Int.reduceLE, Int.reduceEq, reduceCtorEq, Int.natCast_zero, Int.natCast_one, Int.cast_ofNat_Int, Bool.not_not, false_eq_decide, true_eq_decide, hread0, hreadk, read_cons0, read_consk, astore_h0, astore_hk, hget0, hgetk, hset0, hsetk, hlen, hcat, Nat.add_assoc, Nat.add_zero, Nat.zero_add, List.length_append, and_true, true_and, AV.flat, bax, get_app bax, read_get bax, read_app bax, hvx, one_solid hvx, one_cells hvx, chgE_cells, *, -hK, -hm, -hfa, -hrng, -back, -I, -I1, -I2, -bcx, -brx, -b8x, -hst] | with_reducible refine IfB_dec (fun h => ?_) (fun h => ?_) | with_reducible refine Guard_dec (fun h => ?_) (fun h => ?_) | with_reducible refine Guard_ndec (fun h => ?_) (fun h => ?_) | with_reducible refine Guard_not (fun h => ?_) (fun h => ?_) | with_reducible refine IfB_ndec (fun h => ?_) (fun h => ?_) | with_reducible refine IfB_not (fun h => ?_) (fun h => ?_) | with_reducible refine Guard_split (fun h => ?_) (fun h => ?_) | with_reducible refine IfB_split (fun h => ?_) (fun h => ?_))
      exact back _ _ (by (repeat (first | exact hs | refine hA _ _ _ (by decide) ?_))) (by simp only [go_sem, Nat.reduceLT, Nat.reduceEqDiff, Nat.reduceAdd, Nat.reduceMul, Nat.reduceSub, Nat.reduceLeDiff, Int.reduceToNat, Int.reduceNeg, Int.reduceLT, Int.reduceLE, Int.reduceEq, reduceCtorEq]) I2
    obtain ⟨k, rfl⟩ : ∃ k : Nat, tn = (k : Int) := ⟨tn.toNat, by omega⟩
    have hkl : k < a.ts.length := by omega
    have hDo : ∀ t, t ≠ k → (comD c r t).add (sumT t (l.take (i + 1))) = (comD c r t).add (sumT t (l.take i)) := fun t h => by
      rw [hst, show chgT t ⟨kd, (k : Int), ik, iv, fl, du, un, ky, wy, to, pr⟩ = stat0 by unfold chgT; rw [if_neg (by show ¬ (k : Int) = _; omega)]]; simp [Stat.add, stat0]
    have hDk : ∀ {d : Stat}, chgD ⟨kd, (k : Int), ik, iv, fl, du, un, ky, wy, to, pr⟩ = d → (comD c r k).add (sumT k (l.take (i + 1))) = ((comD c r k).add (sumT k (l.take i))).add d := fun {d} h => by
      rw [hst, show chgT k ⟨kd, (k : Int), ik, iv, fl, du, un, ky, wy, to, pr⟩ = d by unfold chgT; rw [if_pos rfl, h]]; simp only [Stat.add, Stat.mk.injEq]; omega
    clear hst
    by_cases k1 : kd = 1
    · subst k1
      obtain ⟨b5, p5, e5, w5⟩ := I1.ups (i := k) (by rw [moreL_len]; exact hkl) 2 (by decide) (by rw [moreL_at hkl]; exact addv_rng _ _ (hrng k hkl) (add_pos (cmdT_pos _ _ (cmdD_pos _ _ _ _)) (sumT_pos _ _)).1) 1 (by omega)
      repeat' (first | simp only [go_sem, Nat.reduceLT, Nat.reduceEqDiff, Nat.reduceAdd, Nat.reduceMul, Nat.reduceSub, Nat.reduceLeDiff, Int.reduceToNat, Int.reduceNeg, Int.reduceLT, Int.reduceLE, Int.reduceEq, reduceCtorEq, Int.natCast_zero, Int.natCast_one, Int.cast_ofNat_Int, Bool.not_not, false_eq_decide, true_eq_decide, hread0, hreadk, read_cons0, read_consk, astore_h0, astore_hk, hget0, hgetk, hset0, hsetk, hlen, hcat, Nat.add_assoc, Nat.add_zero, Nat.zero_add, List.length_append, and_true, true_and, AV.flat, bax, get_app bax, read_get bax, read_app bax, bcx, get_app bcx, read_get bcx, read_app bcx, brx, get_app brx, read_get brx, read_app brx, hvx, one_solid hvx, one_cells hvx, chgE_cells, *, -hK, -hm, -hfa, -hrng, -back, -I, -I1, -w5] | with_reducible refine IfB_dec (fun h => ?_) (fun h => ?_) | with_reducible refine Guard_dec (fun h => ?_) (fun h => ?_) | with_reducible refine Guard_ndec (fun h => ?_) (fun h => ?_) | with_reducible refine Guard_not (fun h => ?_) (fun h => ?_) | with_reducible refine IfB_ndec (fun h => ?_) (fun h => ?_) | with_reducible refine IfB_not (fun h => ?_) (fun h => ?_) | with_reducible refine Guard_split (fun h => ?_) (fun h => ?_) | with_reducible refine IfB_split (fun h => ?_) (fun h => ?_))
      refine w5.mono ?_
      rintro w5' G5 ⟨rfl, I5⟩
      rw [moreL_at hkl, addv_addv _ _ _ (unitS_pos _ _ (by omega)), ← hDk (d := unitS 2 ((1 : Nat) : Int)) rfl, moreL_set hkl (fun t h => hDo t h)] at I5
      repeat' (first | simp only [go_sem, Nat.reduceLT, Nat.reduceEqDiff, Nat.reduceAdd, Nat.reduceMul, Nat.reduceSub, Nat.reduceLeDiff, Int.reduceToNat, Int.reduceNeg, Int.reduceLT, Int.reduceLE, Int.reduceEq, reduceCtorEq, Int.natCast_zero, Int.natCast_one, Int.cast_ofNat_Int, Bool.not_not, false_eq_decide, true_eq_decide, hread0, hreadk, read_cons0, read_consk, astore_h0, astore_hk, hget0, hgetk, hset0, hsetk, hlen, hcat, Nat.add_assoc, Nat.add_zero, Nat.zero_add, List.length_append, and_true, true_and, AV.flat, *, -hK, -hm, -hfa, -hrng, -back, -I, -I1, -w5, -I5] | with_reducible refine IfB_dec (fun h => ?_) (fun h => ?_) | with_reducible refine Guard_dec (fun h => ?_) (fun h => ?_) | with_reducible refine Guard_ndec (fun h => ?_) (fun h => ?_) | with_reducible refine Guard_not (fun h => ?_) (fun h => ?_) | with_reducible refine IfB_ndec (fun h => ?_) (fun h => ?_) | with_reducible refine IfB_not (fun h => ?_) (fun h => ?_) | with_reducible refine Guard_split (fun h => ?_) (fun h => ?_) | with_reducible refine IfB_split (fun h => ?_) (fun h => ?_))
      exact back _ _ (by (repeat (first | exact hs | refine hA _ _ _ (by decide) ?_))) (by simp only [go_sem, Nat.reduceLT, Nat.reduceEqDiff, Nat.reduceAdd, Nat.reduceMul, Nat.reduceSub, Nat.reduceLeDiff, Int.reduceToNat, Int.reduceNeg, Int.reduceLT, Int.reduceLE, Int.reduceEq, reduceCtorEq]) I5
    by_cases k2 : kd = 2
    · subst k2
      by_cases k3 : wy = 1
      · subst k3
        obtain ⟨b5, p5, e5, w5⟩ := I1.ups (i := k) (by rw [moreL_len]; exact hkl) 3 (by decide) (by rw [moreL_at hkl]; exact addv_rng _ _ (hrng k hkl) (add_pos (cmdT_pos _ _ (cmdD_pos _ _ _ _)) (sumT_pos _ _)).1) 1 (by omega)
        repeat' (first | simp only [go_sem, Nat.reduceLT, Nat.reduceEqDiff, Nat.reduceAdd, Nat.reduceMul, Nat.reduceSub, Nat.reduceLeDiff, Int.reduceToNat, Int.reduceNeg, Int.reduceLT, Int.reduceLE, Int.reduceEq, reduceCtorEq, Int.natCast_zero, Int.natCast_one, Int.cast_ofNat_Int, Bool.not_not, false_eq_decide, true_eq_decide, hread0, hreadk, read_cons0, read_consk, astore_h0, astore_hk, hget0, hgetk, hset0, hsetk, hlen, hcat, Nat.add_assoc, Nat.add_zero, Nat.zero_add, List.length_append, and_true, true_and, AV.flat, bax, get_app bax, read_get bax, read_app bax, bcx, get_app bcx, read_get bcx, read_app bcx, brx, get_app brx, read_get brx, read_app brx, hvx, one_solid hvx, one_cells hvx, chgE_cells, *, -hK, -hm, -hfa, -hrng, -back, -I, -I1, -w5] | with_reducible refine IfB_dec (fun h => ?_) (fun h => ?_) | with_reducible refine Guard_dec (fun h => ?_) (fun h => ?_) | with_reducible refine Guard_ndec (fun h => ?_) (fun h => ?_) | with_reducible refine Guard_not (fun h => ?_) (fun h => ?_) | with_reducible refine IfB_ndec (fun h => ?_) (fun h => ?_) | with_reducible refine IfB_not (fun h => ?_) (fun h => ?_) | with_reducible refine Guard_split (fun h => ?_) (fun h => ?_) | with_reducible refine IfB_split (fun h => ?_) (fun h => ?_))
        refine w5.mono ?_
        rintro w5' G5 ⟨rfl, I5⟩
        rw [moreL_at hkl, addv_addv _ _ _ (unitS_pos _ _ (by omega)), ← hDk (d := unitS 3 ((1 : Nat) : Int)) rfl, moreL_set hkl (fun t h => hDo t h)] at I5
        repeat' (first | simp only [go_sem, Nat.reduceLT, Nat.reduceEqDiff, Nat.reduceAdd, Nat.reduceMul, Nat.reduceSub, Nat.reduceLeDiff, Int.reduceToNat, Int.reduceNeg, Int.reduceLT, Int.reduceLE, Int.reduceEq, reduceCtorEq, Int.natCast_zero, Int.natCast_one, Int.cast_ofNat_Int, Bool.not_not, false_eq_decide, true_eq_decide, hread0, hreadk, read_cons0, read_consk, astore_h0, astore_hk, hget0, hgetk, hset0, hsetk, hlen, hcat, Nat.add_assoc, Nat.add_zero, Nat.zero_add, List.length_append, and_true, true_and, AV.flat, *, -hK, -hm, -hfa, -hrng, -back, -I, -I1, -w5, -I5] | with_reducible refine IfB_dec (fun h => ?_) (fun h => ?_) | with_reducible refine Guard_dec (fun h => ?_) (fun h => ?_) | with_reducible refine Guard_ndec (fun h => ?_) (fun h => ?_) | with_reducible refine Guard_not (fun h => ?_) (fun h => ?_) | with_reducible refine IfB_ndec (fun h => ?_) (fun h => ?_) | with_reducible refine IfB_not (fun h => ?_) (fun h => ?_) | with_reducible refine Guard_split (fun h => ?_) (fun h => ?_) | with_reducible refine IfB_split (fun h => ?_) (fun h => ?_))
        exact back _ _ (by (repeat (first | exact hs | refine hA _ _ _ (by decide) ?_))) (by simp only [go_sem, Nat.reduceLT, Nat.reduceEqDiff, Nat.reduceAdd, Nat.reduceMul, Nat.reduceSub, Nat.reduceLeDiff, Int.reduceToNat, Int.reduceNeg, Int.reduceLT, Int.reduceLE, Int.reduceEq, reduceCtorEq]) I5
      · skip
        obtain ⟨b5, p5, e5, w5⟩ := I1.ups (i := k) (by rw [moreL_len]; exact hkl) 4 (by decide) (by rw [moreL_at hkl]; exact addv_rng _ _ (hrng k hkl) (add_pos (cmdT_pos _ _ (cmdD_pos _ _ _ _)) (sumT_pos _ _)).1) 1 (by omega)
        repeat' (first | simp only [go_sem, Nat.reduceLT, Nat.reduceEqDiff, Nat.reduceAdd, Nat.reduceMul, Nat.reduceSub, Nat.reduceLeDiff, Int.reduceToNat, Int.reduceNeg, Int.reduceLT, Int.reduceLE, Int.reduceEq, reduceCtorEq, Int.natCast_zero, Int.natCast_one, Int.cast_ofNat_Int, Bool.not_not, false_eq_decide, true_eq_decide, hread0, hreadk, read_cons0, read_consk, astore_h0, astore_hk, hget0, hgetk, hset0, hsetk, hlen, hcat, Nat.add_assoc, Nat.add_zero, Nat.zero_add, List.length_append, and_true, true_and, AV.flat, bax, get_app bax, read_get bax, read_app bax, bcx, get_app bcx, read_get bcx, read_app bcx, brx, get_app brx, read_get brx, read_app brx, hvx, one_solid hvx, one_cells hvx, chgE_cells, *, -hK, -hm, -hfa, -hrng, -back, -I, -I1, -w5] | with_reducible refine IfB_dec (fun h => ?_) (fun h => ?_) | with_reducible refine Guard_dec (fun h => ?_) (fun h => ?_) | with_reducible refine Guard_ndec (fun h => ?_) (fun h => ?_) | with_reducible refine Guard_not (fun h => ?_) (fun h => ?_) | with_reducible refine IfB_ndec (fun h => ?_) (fun h => ?_) | with_reducible refine IfB_not (fun h => ?_) (fun h => ?_) | with_reducible refine Guard_split (fun h => ?_) (fun h => ?_) | with_reducible refine IfB_split (fun h => ?_) (fun h => ?_))
        refine w5.mono ?_
        rintro w5' G5 ⟨rfl, I5⟩
        rw [moreL_at hkl, addv_addv _ _ _ (unitS_pos _ _ (by omega)), ← hDk (d := unitS 4 ((1 : Nat) : Int)) (by unfold chgD; rw [if_neg (by simp), if_neg (fun h => k3 h.2), if_pos rfl]; rfl), moreL_set hkl (fun t h => hDo t h)] at I5
        repeat' (first | simp only [go_sem, Nat.reduceLT, Nat.reduceEqDiff, Nat.reduceAdd, Nat.reduceMul, Nat.reduceSub, Nat.reduceLeDiff, Int.reduceToNat, Int.reduceNeg, Int.reduceLT, Int.reduceLE, Int.reduceEq, reduceCtorEq, Int.natCast_zero, Int.natCast_one, Int.cast_ofNat_Int, Bool.not_not, false_eq_decide, true_eq_decide, hread0, hreadk, read_cons0, read_consk, astore_h0, astore_hk, hget0, hgetk, hset0, hsetk, hlen, hcat, Nat.add_assoc, Nat.add_zero, Nat.zero_add, List.length_append, and_true, true_and, AV.flat, *, -hK, -hm, -hfa, -hrng, -back, -I, -I1, -w5, -I5] | with_reducible refine IfB_dec (fun h => ?_) (fun h => ?_) | with_reducible refine Guard_dec (fun h => ?_) (fun h => ?_) | with_reducible refine Guard_ndec (fun h => ?_) (fun h => ?_) | with_reducible refine Guard_not (fun h => ?_) (fun h => ?_) | with_reducible refine IfB_ndec (fun h => ?_) (fun h => ?_) | with_reducible refine IfB_not (fun h => ?_) (fun h => ?_) | with_reducible refine Guard_split (fun h => ?_) (fun h => ?_) | with_reducible refine IfB_split (fun h => ?_) (fun h => ?_))
        exact back _ _ (by (repeat (first | exact hs | refine hA _ _ _ (by decide) ?_))) (by simp only [go_sem, Nat.reduceLT, Nat.reduceEqDiff, Nat.reduceAdd, Nat.reduceMul, Nat.reduceSub, Nat.reduceLeDiff, Int.reduceToNat, Int.reduceNeg, Int.reduceLT, Int.reduceLE, Int.reduceEq, reduceCtorEq]) I5
    obtain ⟨b5, p5, e5, w5⟩ := I1.ups (i := k) (by rw [moreL_len]; exact hkl) 0 (by decide) (by rw [moreL_at hkl]; exact addv_rng _ _ (hrng k hkl) (add_pos (cmdT_pos _ _ (cmdD_pos _ _ _ _)) (sumT_pos _ _)).1) 1 (by omega)
    clear w5
    have I2 := I1
    rw [moreL_congr (f := fun t => (comD c r t).add (sumT t (l.take i))) (g := fun t => (comD c r t).add (sumT t (l.take (i + 1)))) (fun t h => (Classical.em (t = k)).elim (fun e => by subst e; rw [hDk (d := stat0) (by unfold chgD; rw [if_neg k1, if_neg (fun h => k2 h.1), if_neg k2])]; simp [Stat.add, stat0]) (fun h => (hDo t h).symm))] at I2
    repeat' (first | simp only [go_sem, Nat.reduceLT, Nat.reduceEqDiff, Nat.reduceAdd, Nat.reduceMul, Nat.reduceSub, Nat.reduceLeDiff, Int.reduceToNat, Int.reduceNeg, Int.reduceLT, Int.reduceLE, Int.reduceEq, reduceCtorEq, Int.natCast_zero, Int.natCast_one, Int.cast_ofNat_Int, Bool.not_not, false_eq_decide, true_eq_decide, hread0, hreadk, read_cons0, read_consk, astore_h0, astore_hk, hget0, hgetk, hset0, hsetk, hlen, hcat, Nat.add_assoc, Nat.add_zero, Nat.zero_add, List.length_append, and_true, true_and, AV.flat, bax, get_app bax, read_get bax, read_app bax, hvx, one_solid hvx, one_cells hvx, chgE_cells, *, -hK, -hm, -hfa, -hrng, -back, -I, -I1, -I2, -bcx, -brx, -b8x, -hDo, -hDk] | with_reducible refine IfB_dec (fun h => ?_) (fun h => ?_) | with_reducible refine Guard_dec (fun h => ?_) (fun h => ?_) | with_reducible refine Guard_ndec (fun h => ?_) (fun h => ?_) | with_reducible refine Guard_not (fun h => ?_) (fun h => ?_) | with_reducible refine IfB_ndec (fun h => ?_) (fun h => ?_) | with_reducible refine IfB_not (fun h => ?_) (fun h => ?_) | with_reducible refine Guard_split (fun h => ?_) (fun h => ?_) | with_reducible refine IfB_split (fun h => ?_) (fun h => ?_))
    exact back _ _ (by (repeat (first | exact hs | refine hA _ _ _ (by decide) ?_))) (by simp only [go_sem, Nat.reduceLT, Nat.reduceEqDiff, Nat.reduceAdd, Nat.reduceMul, Nat.reduceSub, Nat.reduceLeDiff, Int.reduceToNat, Int.reduceNeg, Int.reduceLT, Int.reduceLE, Int.reduceEq, reduceCtorEq]) I2
  obtain ⟨k, hkt⟩ : ∃ k : Nat, c.ten = (k : Int) := ⟨c.ten.toNat, by omega⟩
  have hkl : k < a.ts.length := by omega
  obtain ⟨b1, p1, e1, w1⟩ := I0.ups (i := k) hkl 0 (by decide) (hrng k hkl) c.keys.length (by omega)
  rw [← hkt] at e1
  simp only [Nat.add_zero] at w1
  have hv0 := I0.ow.one
  have al0 := I0.ow.alen (by decide) tk22
  have ba0 := I0.ba
  have bc0 := I0.bc
  have br0 := I0.br
  have b80 := I0.b8
  by_cases k1 : c.kind = 1
  · skip
    repeat' (first | simp only [go_sem, Nat.reduceLT, Nat.reduceEqDiff, Nat.reduceAdd, Nat.reduceMul, Nat.reduceSub, Nat.reduceLeDiff, Int.reduceToNat, Int.reduceNeg, Int.reduceLT, Int.reduceLE, Int.reduceEq, reduceCtorEq, Int.natCast_zero, Int.natCast_one, Int.cast_ofNat_Int, Bool.not_not, false_eq_decide, true_eq_decide, hread0, hreadk, read_cons0, read_consk, astore_h0, astore_hk, hget0, hgetk, hset0, hsetk, hlen, hcat, Nat.add_assoc, Nat.add_zero, Nat.zero_add, List.length_append, and_true, true_and, AV.flat, hbA, get_app hbA, read_get hbA, read_app hbA, astore_get hbA, astore_app hbA, get_set hbA, get_set_app hbA, read_set hbA, read_set_app hbA, astore_set hbA, astore_set_app hbA, List.set_set, hget0s, hgetks, hread0s, hreadks, List.length_set, ba0, get_app ba0, read_get ba0, read_app ba0, bc0, get_app bc0, read_get bc0, read_app bc0, br0, get_app br0, read_get br0, read_app br0, hv0, one_solid hv0, one_cells hv0, *, -hK, -hm, -hfa, -hrng, -w1, -I0, -b80, -hkt] | with_reducible refine IfB_dec (fun h => ?_) (fun h => ?_) | with_reducible refine Guard_dec (fun h => ?_) (fun h => ?_) | with_reducible refine Guard_ndec (fun h => ?_) (fun h => ?_) | with_reducible refine Guard_not (fun h => ?_) (fun h => ?_) | with_reducible refine IfB_ndec (fun h => ?_) (fun h => ?_) | with_reducible refine IfB_not (fun h => ?_) (fun h => ?_) | with_reducible refine Guard_split (fun h => ?_) (fun h => ?_) | with_reducible refine IfB_split (fun h => ?_) (fun h => ?_))
    refine WX_rows hT hmix [(0, none), (1, none), (2, none), (3, none), (4, none), (5, none), (6, none), (7, some [true, true, true, true, true, true, true])] (by kernel_rfl) ?_
    repeat' (first | simp only [go_sem, Nat.reduceLT, Nat.reduceEqDiff, Nat.reduceAdd, Nat.reduceMul, Nat.reduceSub, Nat.reduceLeDiff, Int.reduceToNat, Int.reduceNeg, Int.reduceLT, Int.reduceLE, Int.reduceEq, reduceCtorEq, Int.natCast_zero, Int.natCast_one, Int.cast_ofNat_Int, Bool.not_not, false_eq_decide, true_eq_decide, hread0, hreadk, read_cons0, read_consk, astore_h0, astore_hk, hget0, hgetk, hset0, hsetk, hlen, hcat, Nat.add_assoc, Nat.add_zero, Nat.zero_add, List.length_append, and_true, true_and, AV.flat, hbA, get_app hbA, read_get hbA, read_app hbA, astore_get hbA, astore_app hbA, get_set hbA, get_set_app hbA, read_set hbA, read_set_app hbA, astore_set hbA, astore_set_app hbA, List.set_set, hget0s, hgetks, hread0s, hreadks, List.length_set, ba0, get_app ba0, read_get ba0, read_app ba0, bc0, get_app bc0, read_get bc0, read_app bc0, br0, get_app br0, read_get br0, read_app br0, hv0, one_solid hv0, one_cells hv0, *, -hK, -hm, -hfa, -hrng, -w1, -I0, -b80, -hkt] | with_reducible refine IfB_dec (fun h => ?_) (fun h => ?_) | with_reducible refine Guard_dec (fun h => ?_) (fun h => ?_) | with_reducible refine Guard_ndec (fun h => ?_) (fun h => ?_) | with_reducible refine Guard_not (fun h => ?_) (fun h => ?_) | with_reducible refine IfB_ndec (fun h => ?_) (fun h => ?_) | with_reducible refine IfB_not (fun h => ?_) (fun h => ?_) | with_reducible refine Guard_split (fun h => ?_) (fun h => ?_) | with_reducible refine IfB_split (fun h => ?_) (fun h => ?_))
    refine w1.mono ?_
    rintro w1' G2 ⟨rfl, I2⟩
    clear hv0 al0 ba0 bc0 br0 b80 w1
    have hv2 := I2.ow.one
    have al2 := I2.ow.alen (by decide) tk22
    have ba2 := I2.ba
    have bc2 := I2.bc
    have br2 := I2.br
    have b82 := I2.b8
    obtain ⟨b2, p2, e2, w2⟩ := I2.ups (i := k) (by rw [List.length_set]; exact hkl) 1 (by decide) (by rw [List.getElem_set_self]; exact addv_rng _ _ (hrng k hkl) (unitS_pos _ _ (by omega))) (min r.its.length c.keys.length) (by omega)
    rw [← hkt, e1] at e2
    cases e2
    rw [set2 hkl _ _ (unitS_pos _ _ (by omega))] at w2
    have mn : (if ((c.keys.length : Nat) : Int) < (r.its.length : Int) then (c.keys.length : Int) else (r.its.length : Int)) = ((min r.its.length c.keys.length : Nat) : Int) := by split <;> omega
    repeat' (first | simp only [go_sem, Nat.reduceLT, Nat.reduceEqDiff, Nat.reduceAdd, Nat.reduceMul, Nat.reduceSub, Nat.reduceLeDiff, Int.reduceToNat, Int.reduceNeg, Int.reduceLT, Int.reduceLE, Int.reduceEq, reduceCtorEq, Int.natCast_zero, Int.natCast_one, Int.cast_ofNat_Int, Bool.not_not, false_eq_decide, true_eq_decide, hread0, hreadk, read_cons0, read_consk, astore_h0, astore_hk, hget0, hgetk, hset0, hsetk, hlen, hcat, Nat.add_assoc, Nat.add_zero, Nat.zero_add, List.length_append, and_true, true_and, AV.flat, ba2, get_app ba2, read_get ba2, read_app ba2, bc2, get_app bc2, read_get bc2, read_app bc2, br2, get_app br2, read_get br2, read_app br2, hv2, one_solid hv2, one_cells hv2, *, -hK, -hm, -hfa, -hrng, -w2, -I0, -I2, -b82, -hkt, -mn] | with_reducible refine IfB_dec (fun h => ?_) (fun h => ?_) | with_reducible refine Guard_dec (fun h => ?_) (fun h => ?_) | with_reducible refine Guard_ndec (fun h => ?_) (fun h => ?_) | with_reducible refine Guard_not (fun h => ?_) (fun h => ?_) | with_reducible refine IfB_ndec (fun h => ?_) (fun h => ?_) | with_reducible refine IfB_not (fun h => ?_) (fun h => ?_) | with_reducible refine Guard_split (fun h => ?_) (fun h => ?_) | with_reducible refine IfB_split (fun h => ?_) (fun h => ?_))
    refine WX_rows hT hmix [(0, none), (1, none), (2, none), (3, none), (4, none), (5, none), (6, none), (7, none), (8, none), (9, none), (10, none), (11, some [true, true, true, true, true, true, true, true, true, true, true])] (by kernel_rfl) ?_
    repeat' (first | simp only [go_sem, Nat.reduceLT, Nat.reduceEqDiff, Nat.reduceAdd, Nat.reduceMul, Nat.reduceSub, Nat.reduceLeDiff, Int.reduceToNat, Int.reduceNeg, Int.reduceLT, Int.reduceLE, Int.reduceEq, reduceCtorEq, Int.natCast_zero, Int.natCast_one, Int.cast_ofNat_Int, Bool.not_not, false_eq_decide, true_eq_decide, hread0, hreadk, read_cons0, read_consk, astore_h0, astore_hk, hget0, hgetk, hset0, hsetk, hlen, hcat, Nat.add_assoc, Nat.add_zero, Nat.zero_add, List.length_append, and_true, true_and, AV.flat, ba2, get_app ba2, read_get ba2, read_app ba2, bc2, get_app bc2, read_get bc2, read_app bc2, br2, get_app br2, read_get br2, read_app br2, hv2, one_solid hv2, one_cells hv2, *, -hK, -hm, -hfa, -hrng, -w2, -I0, -I2, -b82, -hkt] | with_reducible refine IfB_dec (fun h => ?_) (fun h => ?_) | with_reducible refine Guard_dec (fun h => ?_) (fun h => ?_) | with_reducible refine Guard_ndec (fun h => ?_) (fun h => ?_) | with_reducible refine Guard_not (fun h => ?_) (fun h => ?_) | with_reducible refine IfB_ndec (fun h => ?_) (fun h => ?_) | with_reducible refine IfB_not (fun h => ?_) (fun h => ?_) | with_reducible refine Guard_split (fun h => ?_) (fun h => ?_) | with_reducible refine IfB_split (fun h => ?_) (fun h => ?_))
    refine w2.mono ?_
    rintro w2' G3 ⟨rfl, I3⟩
    clear hv2 al2 ba2 bc2 br2 b82 w2 mn
    have hD0 : ((unitS 0 (c.keys.length : Int)).add (unitS 1 ((min r.its.length c.keys.length : Nat) : Int))).pos := by
      simp only [Stat.pos, Stat.add, unitS, Stat.upd, stat0]; omega
    have hDr : (r.kind = 7 ∨ r.kind = 4 ∨ r.kind = 5) → cmdD c.kind c.keys.length r.kind r.its.length = ((unitS 0 (c.keys.length : Int)).add (unitS 1 ((min r.its.length c.keys.length : Nat) : Int))).add (unitS 5 ((1 : Nat) : Int)) := fun h => by
      unfold cmdD; rw [if_pos k1, if_pos k1, if_pos h]; simp [Stat.add, unitS, Stat.upd, stat0]
    have hDn : ¬ (r.kind = 7 ∨ r.kind = 4 ∨ r.kind = 5) → cmdD c.kind c.keys.length r.kind r.its.length = (unitS 0 (c.keys.length : Int)).add (unitS 1 ((min r.its.length c.keys.length : Nat) : Int)) := fun h => by
      unfold cmdD; rw [if_pos k1, if_pos k1, if_neg h]; simp [Stat.add, unitS, Stat.upd, stat0]
    have hvz := I3.ow.one
    have alz := I3.ow.alen (by decide) tk22
    have baz := I3.ba
    have bcz := I3.bc
    have brz := I3.br
    have b8z := I3.b8
    by_cases hr : r.kind = 7 ∨ r.kind = 4 ∨ r.kind = 5
    · obtain ⟨b5, p5, e5, w5⟩ := I3.ups (i := k) (by rw [List.length_set]; exact hkl) 5 (by decide) (by rw [List.getElem_set_self]; exact addv_rng _ _ (hrng k hkl) hD0) 1 (by omega)
      rw [← hkt, e1] at e5
      cases e5
      rw [set2 hkl _ _ (unitS_pos _ _ (by omega)), moreL_one hkl hm.2.2 (f := comD c r) (by unfold comD cmdT; rw [if_pos hkt, hDr hr]) (fun t h => by unfold comD cmdT; rw [if_neg (by omega)])] at w5
      clear hDr hDn
      have hr3 : r.kind = 7 ∨ (¬ r.kind = 7 ∧ r.kind = 4) ∨ (¬ r.kind = 7 ∧ ¬ r.kind = 4 ∧ r.kind = 5) := by omega
      clear hr
      rcases hr3 with r7 | ⟨n7, r4⟩ | ⟨n7, n4, r5⟩
      all_goals
        repeat' (first | simp only [go_sem, Nat.reduceLT, Nat.reduceEqDiff, Nat.reduceAdd, Nat.reduceMul, Nat.reduceSub, Nat.reduceLeDiff, Int.reduceToNat, Int.reduceNeg, Int.reduceLT, Int.reduceLE, Int.reduceEq, reduceCtorEq, Int.natCast_zero, Int.natCast_one, Int.cast_ofNat_Int, Bool.not_not, false_eq_decide, true_eq_decide, hread0, hreadk, read_cons0, read_consk, astore_h0, astore_hk, hget0, hgetk, hset0, hsetk, hlen, hcat, Nat.add_assoc, Nat.add_zero, Nat.zero_add, List.length_append, and_true, true_and, AV.flat, and_true, baz, get_app baz, read_get baz, read_app baz, bcz, get_app bcz, read_get bcz, read_app bcz, brz, get_app brz, read_get brz, read_app brz, hvz, one_solid hvz, one_cells hvz, *, -hK, -hm, -hfa, -hrng, -I0, -I3, -w5, -hD0, -b8z, -hkt] | with_reducible refine IfB_dec (fun h => ?_) (fun h => ?_) | with_reducible refine Guard_dec (fun h => ?_) (fun h => ?_) | with_reducible refine Guard_ndec (fun h => ?_) (fun h => ?_) | with_reducible refine Guard_not (fun h => ?_) (fun h => ?_) | with_reducible refine IfB_ndec (fun h => ?_) (fun h => ?_) | with_reducible refine IfB_not (fun h => ?_) (fun h => ?_) | with_reducible refine Guard_split (fun h => ?_) (fun h => ?_) | with_reducible refine IfB_split (fun h => ?_) (fun h => ?_))
        refine w5.mono ?_
        rintro w5' G5 ⟨rfl, IJ⟩
        clear w5 I3 hvz alz baz bcz brz b8z
        have hvy := IJ.ow.one
        have aly := IJ.ow.alen (by decide) tk22
        have bay := IJ.ba
        have bcy := IJ.bc
        have bry := IJ.br
        have b8y := IJ.b8
        repeat' (first | simp only [go_sem, Nat.reduceLT, Nat.reduceEqDiff, Nat.reduceAdd, Nat.reduceMul, Nat.reduceSub, Nat.reduceLeDiff, Int.reduceToNat, Int.reduceNeg, Int.reduceLT, Int.reduceLE, Int.reduceEq, reduceCtorEq, Int.natCast_zero, Int.natCast_one, Int.cast_ofNat_Int, Bool.not_not, false_eq_decide, true_eq_decide, hread0, hreadk, read_cons0, read_consk, astore_h0, astore_hk, hget0, hgetk, hset0, hsetk, hlen, hcat, Nat.add_assoc, Nat.add_zero, Nat.zero_add, List.length_append, and_true, true_and, AV.flat, bay, get_app bay, read_get bay, read_app bay, bcy, get_app bcy, read_get bcy, read_app bcy, bry, get_app bry, read_get bry, read_app bry, hvy, one_solid hvy, one_cells hvy, *, -hK, -hm, -hfa, -hrng, -I0, -IJ, -hD0, -b8y, -hkt] | with_reducible refine IfB_dec (fun h => ?_) (fun h => ?_) | with_reducible refine Guard_dec (fun h => ?_) (fun h => ?_) | with_reducible refine Guard_ndec (fun h => ?_) (fun h => ?_) | with_reducible refine Guard_not (fun h => ?_) (fun h => ?_) | with_reducible refine IfB_ndec (fun h => ?_) (fun h => ?_) | with_reducible refine IfB_not (fun h => ?_) (fun h => ?_) | with_reducible refine Guard_split (fun h => ?_) (fun h => ?_) | with_reducible refine IfB_split (fun h => ?_) (fun h => ?_))
        clear hvy aly bay bcy bry b8y
        refine WX_loopS [4, 8, 14, 94, 95] (fun q fr' H' => ∃ i : Nat, q = l.length - i ∧ i ≤ l.length ∧ fr'.get 96 = .int .i64 i ∧ CntI H H' v a.dr c.cs r.cs (moreL a.ts fun t => (comD c r t).add (sumT t (l.take i)))) l.length ⟨0, rfl, by omega, by simp only [go_sem, Nat.reduceLT, Nat.reduceEqDiff, Nat.reduceAdd, Nat.reduceMul, Nat.reduceSub, Nat.reduceLeDiff, Int.reduceToNat, Int.reduceNeg, Int.reduceLT, Int.reduceLE, Int.reduceEq, reduceCtorEq]; rfl, by rw [show (fun t => (comD c r t).add (sumT t (l.take 0))) = comD c r by funext t; simp [sumT, stat0, Stat.add]]; exact IJ⟩ ?_
        clear IJ
        rintro q fr' G A R hA hs hg hR ⟨i, rfl, hi, f96, I⟩
        have s4 := hg 4 (by decide)
        have s8 := hg 8 (by decide)
        have s14 := hg 14 (by decide)
        have s94 := hg 94 (by decide)
        have s95 := hg 95 (by decide)
        simp only [Fr.get_put, Fr.get_init, List.getD_cons_zero, List.getD_cons_succ, Nat.reduceEqDiff, if_true, if_false] at s4 s8 s14 s94 s95
        refine wx_sound hT _ ?_
        by_cases hlt : i < l.length
        rotate_left
        · have i3 : ¬ (i : Int) < l.length := by omega
          rw [show i = l.length by omega, List.take_length] at I
          have hvx := I.ow.one
          have alx := I.ow.alen (by decide) tk22
          have bax := I.ba
          have bcx := I.bc
          have brx := I.br
          have b8x := I.b8
          have hne : ∀ b, v.blk = some b → H.length + 4 ≤ b := fun b hb => I.ow.ge hb
          have hle := I.ke.len
          clear hR hA
          repeat' (first | simp only [go_sem, Nat.reduceLT, Nat.reduceEqDiff, Nat.reduceAdd, Nat.reduceMul, Nat.reduceSub, Nat.reduceLeDiff, Int.reduceToNat, Int.reduceNeg, Int.reduceLT, Int.reduceLE, Int.reduceEq, reduceCtorEq, Int.natCast_zero, Int.natCast_one, Int.cast_ofNat_Int, Bool.not_not, false_eq_decide, true_eq_decide, hread0, hreadk, read_cons0, read_consk, astore_h0, astore_hk, hget0, hgetk, hset0, hsetk, hlen, hcat, Nat.add_assoc, Nat.add_zero, Nat.zero_add, List.length_append, and_true, true_and, AV.flat, b8x, get_app b8x, read_get b8x, read_app b8x, astore_get b8x, astore_app b8x, get_set b8x, get_set_app b8x, read_set b8x, read_set_app b8x, astore_set b8x, astore_set_app b8x, List.set_set, hget0s, hgetks, hread0s, hreadks, List.length_set, bax, get_app bax, read_get bax, read_app bax, hvx, one_solid hvx, one_cells hvx, *, -hK, -hm, -hfa, -hrng, -I, -hne, -bcx, -brx] | with_reducible refine IfB_dec (fun h => ?_) (fun h => ?_) | with_reducible refine Guard_dec (fun h => ?_) (fun h => ?_) | with_reducible refine Guard_ndec (fun h => ?_) (fun h => ?_) | with_reducible refine Guard_not (fun h => ?_) (fun h => ?_) | with_reducible refine IfB_ndec (fun h => ?_) (fun h => ?_) | with_reducible refine IfB_not (fun h => ?_) (fun h => ?_) | with_reducible refine Guard_split (fun h => ?_) (fun h => ?_) | with_reducible refine IfB_split (fun h => ?_) (fun h => ?_))
          refine hK _ _ ⟨⟨v, rfl, OwnE.keep (Own.mono I.ow (by omega)) (Keep.of_set rfl) (fun b hb e => by cases hb; have := hne _ e; omega)⟩, ⟨by simp; omega, fun b hb _ => by rw [List.getElem?_set_ne (by omega)]; exact I.ke.at_ b hb (by simp)⟩⟩
        have i3 : (i : Int) < l.length := by omega
        have e1 := at_enc (E := chgE) (T := T) (k := .i64) se33 hlt rfl
        have e3 := inc_id hlt hl
        obtain ⟨hx0, hx4⟩ := hfa l[i] (List.getElem_mem hlt)
        have I1 := I.keep (Keep.snoc none G (⟨[.int .u8 l[i].kind, .int .i64 l[i].ten, .str l[i].ikey, .str l[i].ival, .int .u32 l[i].ifl, .int .i64 l[i].idue, .int .u64 l[i].iuniq, .str l[i].key, .int .u8 l[i].why, .int .i64 l[i].to, .bool l[i].prim], 0, .full⟩ : Blk))
        have hvx := I.ow.one
        have alx := I.ow.alen (by decide) tk22
        have bax := I.ba
        have bcx := I.bc
        have brx := I.br
        have b8x := I.b8
        rw [moreL_len] at alx
        have hst : ∀ t, sumT t (l.take (i + 1)) = (sumT t (l.take i)).add (chgT t l[i]) := fun t => by rw [List.take_succ_eq_append_getElem hlt, sumT_snoc]
        have back : ∀ fr2 J, A fr2 → fr2.get 96 = .int .i64 ((i + 1 : Nat) : Int) → CntI H J v a.dr c.cs r.cs (moreL a.ts fun t => (comD c r t).add (sumT t (l.take (i + 1)))) → R fr2 J := fun fr2 J ha g1 g2 => hR fr2 J ha (l.length - (i + 1)) (by omega) ⟨i + 1, rfl, by omega, g1, g2⟩
        clear hR
        generalize l[i] = x at *
        obtain ⟨kd, tn, ik, iv, fl, du, un, ky, wy, to, pr⟩ := x
        simp only at hx0 hx4 I1
        rw [chgE_cells] at e1
        simp only at e1
        by_cases ht2 : tn ≥ (a.ts.length : Int)
        · have I2 := I1
          rw [moreL_congr (f := fun t => (comD c r t).add (sumT t (l.take i))) (g := fun t => (comD c r t).add (sumT t (l.take (i + 1)))) (fun t h => by rw [hst, show chgT t ⟨kd, tn, ik, iv, fl, du, un, ky, wy, to, pr⟩ = stat0 by unfold chgT; rw [if_neg (by show ¬ tn = _; omega)]]; simp [Stat.add, stat0])] at I2
          repeat' (first | simp only [go_sem, Nat.reduceLT, Nat.reduceEqDiff, Nat.reduceAdd, Nat.reduceMul, Nat.reduceSub, Nat.reduceLeDiff, Int.reduceToNat, Int.reduceNeg, Int.reduceLT, Int.reduceLE, Int.reduceEq, reduceCtorEq, Int.natCast_zero, Int.natCast_one, Int.cast_ofNat_Int, Bool.not_not, false_eq_decide, true_eq_decide, hread0, hreadk, read_cons0, read_consk, astore_h0, astore_hk, hget0, hgetk, hset0, hsetk, hlen, hcat, Nat.add_assoc, Nat.add_zero, Nat.zero_add, List.length_append, and_true, true_and, AV.flat, bax, get_app bax, read_get bax, read_app bax, hvx, one_solid hvx, one_cells hvx, chgE_cells, *, -hK, -hm, -hfa, -hrng, -back, -I, -I1, -I2, -bcx, -brx, -b8x, -hst] | with_reducible refine IfB_dec (fun h => ?_) (fun h => ?_) | with_reducible refine Guard_dec (fun h => ?_) (fun h => ?_) | with_reducible refine Guard_ndec (fun h => ?_) (fun h => ?_) | with_reducible refine Guard_not (fun h => ?_) (fun h => ?_) | with_reducible refine IfB_ndec (fun h => ?_) (fun h => ?_) | with_reducible refine IfB_not (fun h => ?_) (fun h => ?_) | with_reducible refine Guard_split (fun h => ?_) (fun h => ?_) | with_reducible refine IfB_split (fun h => ?_) (fun h => ?_))
          exact back _ _ (by (repeat (first | exact hs | refine hA _ _ _ (by decide) ?_))) (by simp only [go_sem, Nat.reduceLT, Nat.reduceEqDiff, Nat.reduceAdd, Nat.reduceMul, Nat.reduceSub, Nat.reduceLeDiff, Int.reduceToNat, Int.reduceNeg, Int.reduceLT, Int.reduceLE, Int.reduceEq, reduceCtorEq]) I2
        obtain ⟨k, rfl⟩ : ∃ k : Nat, tn = (k : Int) := ⟨tn.toNat, by omega⟩
        have hkl : k < a.ts.length := by omega
        have hDo : ∀ t, t ≠ k → (comD c r t).add (sumT t (l.take (i + 1))) = (comD c r t).add (sumT t (l.take i)) := fun t h => by
          rw [hst, show chgT t ⟨kd, (k : Int), ik, iv, fl, du, un, ky, wy, to, pr⟩ = stat0 by unfold chgT; rw [if_neg (by show ¬ (k : Int) = _; omega)]]; simp [Stat.add, stat0]
        have hDk : ∀ {d : Stat}, chgD ⟨kd, (k : Int), ik, iv, fl, du, un, ky, wy, to, pr⟩ = d → (comD c r k).add (sumT k (l.take (i + 1))) = ((comD c r k).add (sumT k (l.take i))).add d := fun {d} h => by
          rw [hst, show chgT k ⟨kd, (k : Int), ik, iv, fl, du, un, ky, wy, to, pr⟩ = d by unfold chgT; rw [if_pos rfl, h]]; simp only [Stat.add, Stat.mk.injEq]; omega
        clear hst
        by_cases k1 : kd = 1
        · subst k1
          obtain ⟨b5, p5, e5, w5⟩ := I1.ups (i := k) (by rw [moreL_len]; exact hkl) 2 (by decide) (by rw [moreL_at hkl]; exact addv_rng _ _ (hrng k hkl) (add_pos (cmdT_pos _ _ (cmdD_pos _ _ _ _)) (sumT_pos _ _)).1) 1 (by omega)
          repeat' (first | simp only [go_sem, Nat.reduceLT, Nat.reduceEqDiff, Nat.reduceAdd, Nat.reduceMul, Nat.reduceSub, Nat.reduceLeDiff, Int.reduceToNat, Int.reduceNeg, Int.reduceLT, Int.reduceLE, Int.reduceEq, reduceCtorEq, Int.natCast_zero, Int.natCast_one, Int.cast_ofNat_Int, Bool.not_not, false_eq_decide, true_eq_decide, hread0, hreadk, read_cons0, read_consk, astore_h0, astore_hk, hget0, hgetk, hset0, hsetk, hlen, hcat, Nat.add_assoc, Nat.add_zero, Nat.zero_add, List.length_append, and_true, true_and, AV.flat, bax, get_app bax, read_get bax, read_app bax, bcx, get_app bcx, read_get bcx, read_app bcx, brx, get_app brx, read_get brx, read_app brx, hvx, one_solid hvx, one_cells hvx, chgE_cells, *, -hK, -hm, -hfa, -hrng, -back, -I, -I1, -w5] | with_reducible refine IfB_dec (fun h => ?_) (fun h => ?_) | with_reducible refine Guard_dec (fun h => ?_) (fun h => ?_) | with_reducible refine Guard_ndec (fun h => ?_) (fun h => ?_) | with_reducible refine Guard_not (fun h => ?_) (fun h => ?_) | with_reducible refine IfB_ndec (fun h => ?_) (fun h => ?_) | with_reducible refine IfB_not (fun h => ?_) (fun h => ?_) | with_reducible refine Guard_split (fun h => ?_) (fun h => ?_) | with_reducible refine IfB_split (fun h => ?_) (fun h => ?_))
          refine w5.mono ?_
          rintro w5' G5 ⟨rfl, I5⟩
          rw [moreL_at hkl, addv_addv _ _ _ (unitS_pos _ _ (by omega)), ← hDk (d := unitS 2 ((1 : Nat) : Int)) rfl, moreL_set hkl (fun t h => hDo t h)] at I5
          repeat' (first | simp only [go_sem, Nat.reduceLT, Nat.reduceEqDiff, Nat.reduceAdd, Nat.reduceMul, Nat.reduceSub, Nat.reduceLeDiff, Int.reduceToNat, Int.reduceNeg, Int.reduceLT, Int.reduceLE, Int.reduceEq, reduceCtorEq, Int.natCast_zero, Int.natCast_one, Int.cast_ofNat_Int, Bool.not_not, false_eq_decide, true_eq_decide, hread0, hreadk, read_cons0, read_consk, astore_h0, astore_hk, hget0, hgetk, hset0, hsetk, hlen, hcat, Nat.add_assoc, Nat.add_zero, Nat.zero_add, List.length_append, and_true, true_and, AV.flat, *, -hK, -hm, -hfa, -hrng, -back, -I, -I1, -w5, -I5] | with_reducible refine IfB_dec (fun h => ?_) (fun h => ?_) | with_reducible refine Guard_dec (fun h => ?_) (fun h => ?_) | with_reducible refine Guard_ndec (fun h => ?_) (fun h => ?_) | with_reducible refine Guard_not (fun h => ?_) (fun h => ?_) | with_reducible refine IfB_ndec (fun h => ?_) (fun h => ?_) | with_reducible refine IfB_not (fun h => ?_) (fun h => ?_) | with_reducible refine Guard_split (fun h => ?_) (fun h => ?_) | with_reducible refine IfB_split (fun h => ?_) (fun h => ?_))
          exact back _ _ (by (repeat (first | exact hs | refine hA _ _ _ (by decide) ?_))) (by simp only [go_sem, Nat.reduceLT, Nat.reduceEqDiff, Nat.reduceAdd, Nat.reduceMul, Nat.reduceSub, Nat.reduceLeDiff, Int.reduceToNat, Int.reduceNeg, Int.reduceLT, Int.reduceLE, Int.reduceEq, reduceCtorEq]) I5
        by_cases k2 : kd = 2
        · subst k2
          by_cases k3 : wy = 1
          · subst k3
            obtain ⟨b5, p5, e5, w5⟩ := I1.ups (i := k) (by rw [moreL_len]; exact hkl) 3 (by decide) (by rw [moreL_at hkl]; exact addv_rng _ _ (hrng k hkl) (add_pos (cmdT_pos _ _ (cmdD_pos _ _ _ _)) (sumT_pos _ _)).1) 1 (by omega)
            repeat' (first | simp only [go_sem, Nat.reduceLT, Nat.reduceEqDiff, Nat.reduceAdd, Nat.reduceMul, Nat.reduceSub, Nat.reduceLeDiff, Int.reduceToNat, Int.reduceNeg, Int.reduceLT, Int.reduceLE, Int.reduceEq, reduceCtorEq, Int.natCast_zero, Int.natCast_one, Int.cast_ofNat_Int, Bool.not_not, false_eq_decide, true_eq_decide, hread0, hreadk, read_cons0, read_consk, astore_h0, astore_hk, hget0, hgetk, hset0, hsetk, hlen, hcat, Nat.add_assoc, Nat.add_zero, Nat.zero_add, List.length_append, and_true, true_and, AV.flat, bax, get_app bax, read_get bax, read_app bax, bcx, get_app bcx, read_get bcx, read_app bcx, brx, get_app brx, read_get brx, read_app brx, hvx, one_solid hvx, one_cells hvx, chgE_cells, *, -hK, -hm, -hfa, -hrng, -back, -I, -I1, -w5] | with_reducible refine IfB_dec (fun h => ?_) (fun h => ?_) | with_reducible refine Guard_dec (fun h => ?_) (fun h => ?_) | with_reducible refine Guard_ndec (fun h => ?_) (fun h => ?_) | with_reducible refine Guard_not (fun h => ?_) (fun h => ?_) | with_reducible refine IfB_ndec (fun h => ?_) (fun h => ?_) | with_reducible refine IfB_not (fun h => ?_) (fun h => ?_) | with_reducible refine Guard_split (fun h => ?_) (fun h => ?_) | with_reducible refine IfB_split (fun h => ?_) (fun h => ?_))
            refine w5.mono ?_
            rintro w5' G5 ⟨rfl, I5⟩
            rw [moreL_at hkl, addv_addv _ _ _ (unitS_pos _ _ (by omega)), ← hDk (d := unitS 3 ((1 : Nat) : Int)) rfl, moreL_set hkl (fun t h => hDo t h)] at I5
            repeat' (first | simp only [go_sem, Nat.reduceLT, Nat.reduceEqDiff, Nat.reduceAdd, Nat.reduceMul, Nat.reduceSub, Nat.reduceLeDiff, Int.reduceToNat, Int.reduceNeg, Int.reduceLT, Int.reduceLE, Int.reduceEq, reduceCtorEq, Int.natCast_zero, Int.natCast_one, Int.cast_ofNat_Int, Bool.not_not, false_eq_decide, true_eq_decide, hread0, hreadk, read_cons0, read_consk, astore_h0, astore_hk, hget0, hgetk, hset0, hsetk, hlen, hcat, Nat.add_assoc, Nat.add_zero, Nat.zero_add, List.length_append, and_true, true_and, AV.flat, *, -hK, -hm, -hfa, -hrng, -back, -I, -I1, -w5, -I5] | with_reducible refine IfB_dec (fun h => ?_) (fun h => ?_) | with_reducible refine Guard_dec (fun h => ?_) (fun h => ?_) | with_reducible refine Guard_ndec (fun h => ?_) (fun h => ?_) | with_reducible refine Guard_not (fun h => ?_) (fun h => ?_) | with_reducible refine IfB_ndec (fun h => ?_) (fun h => ?_) | with_reducible refine IfB_not (fun h => ?_) (fun h => ?_) | with_reducible refine Guard_split (fun h => ?_) (fun h => ?_) | with_reducible refine IfB_split (fun h => ?_) (fun h => ?_))
            exact back _ _ (by (repeat (first | exact hs | refine hA _ _ _ (by decide) ?_))) (by simp only [go_sem, Nat.reduceLT, Nat.reduceEqDiff, Nat.reduceAdd, Nat.reduceMul, Nat.reduceSub, Nat.reduceLeDiff, Int.reduceToNat, Int.reduceNeg, Int.reduceLT, Int.reduceLE, Int.reduceEq, reduceCtorEq]) I5
          · skip
            obtain ⟨b5, p5, e5, w5⟩ := I1.ups (i := k) (by rw [moreL_len]; exact hkl) 4 (by decide) (by rw [moreL_at hkl]; exact addv_rng _ _ (hrng k hkl) (add_pos (cmdT_pos _ _ (cmdD_pos _ _ _ _)) (sumT_pos _ _)).1) 1 (by omega)
            repeat' (first | simp only [go_sem, Nat.reduceLT, Nat.reduceEqDiff, Nat.reduceAdd, Nat.reduceMul, Nat.reduceSub, Nat.reduceLeDiff, Int.reduceToNat, Int.reduceNeg, Int.reduceLT, Int.reduceLE, Int.reduceEq, reduceCtorEq, Int.natCast_zero, Int.natCast_one, Int.cast_ofNat_Int, Bool.not_not, false_eq_decide, true_eq_decide, hread0, hreadk, read_cons0, read_consk, astore_h0, astore_hk, hget0, hgetk, hset0, hsetk, hlen, hcat, Nat.add_assoc, Nat.add_zero, Nat.zero_add, List.length_append, and_true, true_and, AV.flat, bax, get_app bax, read_get bax, read_app bax, bcx, get_app bcx, read_get bcx, read_app bcx, brx, get_app brx, read_get brx, read_app brx, hvx, one_solid hvx, one_cells hvx, chgE_cells, *, -hK, -hm, -hfa, -hrng, -back, -I, -I1, -w5] | with_reducible refine IfB_dec (fun h => ?_) (fun h => ?_) | with_reducible refine Guard_dec (fun h => ?_) (fun h => ?_) | with_reducible refine Guard_ndec (fun h => ?_) (fun h => ?_) | with_reducible refine Guard_not (fun h => ?_) (fun h => ?_) | with_reducible refine IfB_ndec (fun h => ?_) (fun h => ?_) | with_reducible refine IfB_not (fun h => ?_) (fun h => ?_) | with_reducible refine Guard_split (fun h => ?_) (fun h => ?_) | with_reducible refine IfB_split (fun h => ?_) (fun h => ?_))
            refine w5.mono ?_
            rintro w5' G5 ⟨rfl, I5⟩
            rw [moreL_at hkl, addv_addv _ _ _ (unitS_pos _ _ (by omega)), ← hDk (d := unitS 4 ((1 : Nat) : Int)) (by unfold chgD; rw [if_neg (by simp), if_neg (fun h => k3 h.2), if_pos rfl]; rfl), moreL_set hkl (fun t h => hDo t h)] at I5
            repeat' (first | simp only [go_sem, Nat.reduceLT, Nat.reduceEqDiff, Nat.reduceAdd, Nat.reduceMul, Nat.reduceSub, Nat.reduceLeDiff, Int.reduceToNat, Int.reduceNeg, Int.reduceLT, Int.reduceLE, Int.reduceEq, reduceCtorEq, Int.natCast_zero, Int.natCast_one, Int.cast_ofNat_Int, Bool.not_not, false_eq_decide, true_eq_decide, hread0, hreadk, read_cons0, read_consk, astore_h0, astore_hk, hget0, hgetk, hset0, hsetk, hlen, hcat, Nat.add_assoc, Nat.add_zero, Nat.zero_add, List.length_append, and_true, true_and, AV.flat, *, -hK, -hm, -hfa, -hrng, -back, -I, -I1, -w5, -I5] | with_reducible refine IfB_dec (fun h => ?_) (fun h => ?_) | with_reducible refine Guard_dec (fun h => ?_) (fun h => ?_) | with_reducible refine Guard_ndec (fun h => ?_) (fun h => ?_) | with_reducible refine Guard_not (fun h => ?_) (fun h => ?_) | with_reducible refine IfB_ndec (fun h => ?_) (fun h => ?_) | with_reducible refine IfB_not (fun h => ?_) (fun h => ?_) | with_reducible refine Guard_split (fun h => ?_) (fun h => ?_) | with_reducible refine IfB_split (fun h => ?_) (fun h => ?_))
            exact back _ _ (by (repeat (first | exact hs | refine hA _ _ _ (by decide) ?_))) (by simp only [go_sem, Nat.reduceLT, Nat.reduceEqDiff, Nat.reduceAdd, Nat.reduceMul, Nat.reduceSub, Nat.reduceLeDiff, Int.reduceToNat, Int.reduceNeg, Int.reduceLT, Int.reduceLE, Int.reduceEq, reduceCtorEq]) I5
        obtain ⟨b5, p5, e5, w5⟩ := I1.ups (i := k) (by rw [moreL_len]; exact hkl) 0 (by decide) (by rw [moreL_at hkl]; exact addv_rng _ _ (hrng k hkl) (add_pos (cmdT_pos _ _ (cmdD_pos _ _ _ _)) (sumT_pos _ _)).1) 1 (by omega)
        clear w5
        have I2 := I1
        rw [moreL_congr (f := fun t => (comD c r t).add (sumT t (l.take i))) (g := fun t => (comD c r t).add (sumT t (l.take (i + 1)))) (fun t h => (Classical.em (t = k)).elim (fun e => by subst e; rw [hDk (d := stat0) (by unfold chgD; rw [if_neg k1, if_neg (fun h => k2 h.1), if_neg k2])]; simp [Stat.add, stat0]) (fun h => (hDo t h).symm))] at I2
        repeat' (first | simp only [go_sem, Nat.reduceLT, Nat.reduceEqDiff, Nat.reduceAdd, Nat.reduceMul, Nat.reduceSub, Nat.reduceLeDiff, Int.reduceToNat, Int.reduceNeg, Int.reduceLT, Int.reduceLE, Int.reduceEq, reduceCtorEq, Int.natCast_zero, Int.natCast_one, Int.cast_ofNat_Int, Bool.not_not, false_eq_decide, true_eq_decide, hread0, hreadk, read_cons0, read_consk, astore_h0, astore_hk, hget0, hgetk, hset0, hsetk, hlen, hcat, Nat.add_assoc, Nat.add_zero, Nat.zero_add, List.length_append, and_true, true_and, AV.flat, bax, get_app bax, read_get bax, read_app bax, hvx, one_solid hvx, one_cells hvx, chgE_cells, *, -hK, -hm, -hfa, -hrng, -back, -I, -I1, -I2, -bcx, -brx, -b8x, -hDo, -hDk] | with_reducible refine IfB_dec (fun h => ?_) (fun h => ?_) | with_reducible refine Guard_dec (fun h => ?_) (fun h => ?_) | with_reducible refine Guard_ndec (fun h => ?_) (fun h => ?_) | with_reducible refine Guard_not (fun h => ?_) (fun h => ?_) | with_reducible refine IfB_ndec (fun h => ?_) (fun h => ?_) | with_reducible refine IfB_not (fun h => ?_) (fun h => ?_) | with_reducible refine Guard_split (fun h => ?_) (fun h => ?_) | with_reducible refine IfB_split (fun h => ?_) (fun h => ?_))
        exact back _ _ (by (repeat (first | exact hs | refine hA _ _ _ (by decide) ?_))) (by simp only [go_sem, Nat.reduceLT, Nat.reduceEqDiff, Nat.reduceAdd, Nat.reduceMul, Nat.reduceSub, Nat.reduceLeDiff, Int.reduceToNat, Int.reduceNeg, Int.reduceLT, Int.reduceLE, Int.reduceEq, reduceCtorEq]) I2
    · have n7 : ¬ r.kind = 7 := fun h => hr (.inl h)
      have n4 : ¬ r.kind = 4 := fun h => hr (.inr (.inl h))
      have n5 : ¬ r.kind = 5 := fun h => hr (.inr (.inr h))
      have IJ := I3
      rw [moreL_one hkl hm.2.2 (f := comD c r) (by unfold comD cmdT; rw [if_pos hkt, hDn hr]) (fun t h => by unfold comD cmdT; rw [if_neg (by omega)])] at IJ
      clear hr hDr hDn
      repeat' (first | simp only [go_sem, Nat.reduceLT, Nat.reduceEqDiff, Nat.reduceAdd, Nat.reduceMul, Nat.reduceSub, Nat.reduceLeDiff, Int.reduceToNat, Int.reduceNeg, Int.reduceLT, Int.reduceLE, Int.reduceEq, reduceCtorEq, Int.natCast_zero, Int.natCast_one, Int.cast_ofNat_Int, Bool.not_not, false_eq_decide, true_eq_decide, hread0, hreadk, read_cons0, read_consk, astore_h0, astore_hk, hget0, hgetk, hset0, hsetk, hlen, hcat, Nat.add_assoc, Nat.add_zero, Nat.zero_add, List.length_append, and_true, true_and, AV.flat, and_true, baz, get_app baz, read_get baz, read_app baz, bcz, get_app bcz, read_get bcz, read_app bcz, brz, get_app brz, read_get brz, read_app brz, hvz, one_solid hvz, one_cells hvz, *, -hK, -hm, -hfa, -hrng, -I0, -I3, -IJ, -hD0, -b8z, -hkt] | with_reducible refine IfB_dec (fun h => ?_) (fun h => ?_) | with_reducible refine Guard_dec (fun h => ?_) (fun h => ?_) | with_reducible refine Guard_ndec (fun h => ?_) (fun h => ?_) | with_reducible refine Guard_not (fun h => ?_) (fun h => ?_) | with_reducible refine IfB_ndec (fun h => ?_) (fun h => ?_) | with_reducible refine IfB_not (fun h => ?_) (fun h => ?_) | with_reducible refine Guard_split (fun h => ?_) (fun h => ?_) | with_reducible refine IfB_split (fun h => ?_) (fun h => ?_))
      clear I3 hvz alz baz bcz brz b8z
      refine WX_loopS [4, 8, 14, 94, 95] (fun q fr' H' => ∃ i : Nat, q = l.length - i ∧ i ≤ l.length ∧ fr'.get 96 = .int .i64 i ∧ CntI H H' v a.dr c.cs r.cs (moreL a.ts fun t => (comD c r t).add (sumT t (l.take i)))) l.length ⟨0, rfl, by omega, by simp only [go_sem, Nat.reduceLT, Nat.reduceEqDiff, Nat.reduceAdd, Nat.reduceMul, Nat.reduceSub, Nat.reduceLeDiff, Int.reduceToNat, Int.reduceNeg, Int.reduceLT, Int.reduceLE, Int.reduceEq, reduceCtorEq]; rfl, by rw [show (fun t => (comD c r t).add (sumT t (l.take 0))) = comD c r by funext t; simp [sumT, stat0, Stat.add]]; exact IJ⟩ ?_
      clear IJ
      rintro q fr' G A R hA hs hg hR ⟨i, rfl, hi, f96, I⟩
      have s4 := hg 4 (by decide)
      have s8 := hg 8 (by decide)
      have s14 := hg 14 (by decide)
      have s94 := hg 94 (by decide)
      have s95 := hg 95 (by decide)
      simp only [Fr.get_put, Fr.get_init, List.getD_cons_zero, List.getD_cons_succ, Nat.reduceEqDiff, if_true, if_false] at s4 s8 s14 s94 s95
      refine wx_sound hT _ ?_
      by_cases hlt : i < l.length
      rotate_left
      · have i3 : ¬ (i : Int) < l.length := by omega
        rw [show i = l.length by omega, List.take_length] at I
        have hvx := I.ow.one
        have alx := I.ow.alen (by decide) tk22
        have bax := I.ba
        have bcx := I.bc
        have brx := I.br
        have b8x := I.b8
        have hne : ∀ b, v.blk = some b → H.length + 4 ≤ b := fun b hb => I.ow.ge hb
        have hle := I.ke.len
        clear hR hA
        repeat' (first | simp only [go_sem, Nat.reduceLT, Nat.reduceEqDiff, Nat.reduceAdd, Nat.reduceMul, Nat.reduceSub, Nat.reduceLeDiff, Int.reduceToNat, Int.reduceNeg, Int.reduceLT, Int.reduceLE, Int.reduceEq, reduceCtorEq, Int.natCast_zero, Int.natCast_one, Int.cast_ofNat_Int, Bool.not_not, false_eq_decide, true_eq_decide, hread0, hreadk, read_cons0, read_consk, astore_h0, astore_hk, hget0, hgetk, hset0, hsetk, hlen, hcat, Nat.add_assoc, Nat.add_zero, Nat.zero_add, List.length_append, and_true, true_and, AV.flat, b8x, get_app b8x, read_get b8x, read_app b8x, astore_get b8x, astore_app b8x, get_set b8x, get_set_app b8x, read_set b8x, read_set_app b8x, astore_set b8x, astore_set_app b8x, List.set_set, hget0s, hgetks, hread0s, hreadks, List.length_set, bax, get_app bax, read_get bax, read_app bax, hvx, one_solid hvx, one_cells hvx, *, -hK, -hm, -hfa, -hrng, -I, -hne, -bcx, -brx] | with_reducible refine IfB_dec (fun h => ?_) (fun h => ?_) | with_reducible refine Guard_dec (fun h => ?_) (fun h => ?_) | with_reducible refine Guard_ndec (fun h => ?_) (fun h => ?_) | with_reducible refine Guard_not (fun h => ?_) (fun h => ?_) | with_reducible refine IfB_ndec (fun h => ?_) (fun h => ?_) | with_reducible refine IfB_not (fun h => ?_) (fun h => ?_) | with_reducible refine Guard_split (fun h => ?_) (fun h => ?_) | with_reducible refine IfB_split (fun h => ?_) (fun h => ?_))
        refine hK _ _ ⟨⟨v, rfl, OwnE.keep (Own.mono I.ow (by omega)) (Keep.of_set rfl) (fun b hb e => by cases hb; have := hne _ e; omega)⟩, ⟨by simp; omega, fun b hb _ => by rw [List.getElem?_set_ne (by omega)]; exact I.ke.at_ b hb (by simp)⟩⟩
      have i3 : (i : Int) < l.length := by omega
      have e1 := at_enc (E := chgE) (T := T) (k := .i64) se33 hlt rfl
      have e3 := inc_id hlt hl
      obtain ⟨hx0, hx4⟩ := hfa l[i] (List.getElem_mem hlt)
      have I1 := I.keep (Keep.snoc none G (⟨[.int .u8 l[i].kind, .int .i64 l[i].ten, .str l[i].ikey, .str l[i].ival, .int .u32 l[i].ifl, .int .i64 l[i].idue, .int .u64 l[i].iuniq, .str l[i].key, .int .u8 l[i].why, .int .i64 l[i].to, .bool l[i].prim], 0, .full⟩ : Blk))
      have hvx := I.ow.one
      have alx := I.ow.alen (by decide) tk22
      have bax := I.ba
      have bcx := I.bc
      have brx := I.br
      have b8x := I.b8
      rw [moreL_len] at alx
      have hst : ∀ t, sumT t (l.take (i + 1)) = (sumT t (l.take i)).add (chgT t l[i]) := fun t => by rw [List.take_succ_eq_append_getElem hlt, sumT_snoc]
      have back : ∀ fr2 J, A fr2 → fr2.get 96 = .int .i64 ((i + 1 : Nat) : Int) → CntI H J v a.dr c.cs r.cs (moreL a.ts fun t => (comD c r t).add (sumT t (l.take (i + 1)))) → R fr2 J := fun fr2 J ha g1 g2 => hR fr2 J ha (l.length - (i + 1)) (by omega) ⟨i + 1, rfl, by omega, g1, g2⟩
      clear hR
      generalize l[i] = x at *
      obtain ⟨kd, tn, ik, iv, fl, du, un, ky, wy, to, pr⟩ := x
      simp only at hx0 hx4 I1
      rw [chgE_cells] at e1
      simp only at e1
      by_cases ht2 : tn ≥ (a.ts.length : Int)
      · have I2 := I1
        rw [moreL_congr (f := fun t => (comD c r t).add (sumT t (l.take i))) (g := fun t => (comD c r t).add (sumT t (l.take (i + 1)))) (fun t h => by rw [hst, show chgT t ⟨kd, tn, ik, iv, fl, du, un, ky, wy, to, pr⟩ = stat0 by unfold chgT; rw [if_neg (by show ¬ tn = _; omega)]]; simp [Stat.add, stat0])] at I2
        repeat' (first | simp only [go_sem, Nat.reduceLT, Nat.reduceEqDiff, Nat.reduceAdd, Nat.reduceMul, Nat.reduceSub, Nat.reduceLeDiff, Int.reduceToNat, Int.reduceNeg, Int.reduceLT, Int.reduceLE, Int.reduceEq, reduceCtorEq, Int.natCast_zero, Int.natCast_one, Int.cast_ofNat_Int, Bool.not_not, false_eq_decide, true_eq_decide, hread0, hreadk, read_cons0, read_consk, astore_h0, astore_hk, hget0, hgetk, hset0, hsetk, hlen, hcat, Nat.add_assoc, Nat.add_zero, Nat.zero_add, List.length_append, and_true, true_and, AV.flat, bax, get_app bax, read_get bax, read_app bax, hvx, one_solid hvx, one_cells hvx, chgE_cells, *, -hK, -hm, -hfa, -hrng, -back, -I, -I1, -I2, -bcx, -brx, -b8x, -hst] | with_reducible refine IfB_dec (fun h => ?_) (fun h => ?_) | with_reducible refine Guard_dec (fun h => ?_) (fun h => ?_) | with_reducible refine Guard_ndec (fun h => ?_) (fun h => ?_) | with_reducible refine Guard_not (fun h => ?_) (fun h => ?_) | with_reducible refine IfB_ndec (fun h => ?_) (fun h => ?_) | with_reducible refine IfB_not (fun h => ?_) (fun h => ?_) | with_reducible refine Guard_split (fun h => ?_) (fun h => ?_) | with_reducible refine IfB_split (fun h => ?_) (fun h => ?_))
        exact back _ _ (by (repeat (first | exact hs | refine hA _ _ _ (by decide) ?_))) (by simp only [go_sem, Nat.reduceLT, Nat.reduceEqDiff, Nat.reduceAdd, Nat.reduceMul, Nat.reduceSub, Nat.reduceLeDiff, Int.reduceToNat, Int.reduceNeg, Int.reduceLT, Int.reduceLE, Int.reduceEq, reduceCtorEq]) I2
      obtain ⟨k, rfl⟩ : ∃ k : Nat, tn = (k : Int) := ⟨tn.toNat, by omega⟩
      have hkl : k < a.ts.length := by omega
      have hDo : ∀ t, t ≠ k → (comD c r t).add (sumT t (l.take (i + 1))) = (comD c r t).add (sumT t (l.take i)) := fun t h => by
        rw [hst, show chgT t ⟨kd, (k : Int), ik, iv, fl, du, un, ky, wy, to, pr⟩ = stat0 by unfold chgT; rw [if_neg (by show ¬ (k : Int) = _; omega)]]; simp [Stat.add, stat0]
      have hDk : ∀ {d : Stat}, chgD ⟨kd, (k : Int), ik, iv, fl, du, un, ky, wy, to, pr⟩ = d → (comD c r k).add (sumT k (l.take (i + 1))) = ((comD c r k).add (sumT k (l.take i))).add d := fun {d} h => by
        rw [hst, show chgT k ⟨kd, (k : Int), ik, iv, fl, du, un, ky, wy, to, pr⟩ = d by unfold chgT; rw [if_pos rfl, h]]; simp only [Stat.add, Stat.mk.injEq]; omega
      clear hst
      by_cases k1 : kd = 1
      · subst k1
        obtain ⟨b5, p5, e5, w5⟩ := I1.ups (i := k) (by rw [moreL_len]; exact hkl) 2 (by decide) (by rw [moreL_at hkl]; exact addv_rng _ _ (hrng k hkl) (add_pos (cmdT_pos _ _ (cmdD_pos _ _ _ _)) (sumT_pos _ _)).1) 1 (by omega)
        repeat' (first | simp only [go_sem, Nat.reduceLT, Nat.reduceEqDiff, Nat.reduceAdd, Nat.reduceMul, Nat.reduceSub, Nat.reduceLeDiff, Int.reduceToNat, Int.reduceNeg, Int.reduceLT, Int.reduceLE, Int.reduceEq, reduceCtorEq, Int.natCast_zero, Int.natCast_one, Int.cast_ofNat_Int, Bool.not_not, false_eq_decide, true_eq_decide, hread0, hreadk, read_cons0, read_consk, astore_h0, astore_hk, hget0, hgetk, hset0, hsetk, hlen, hcat, Nat.add_assoc, Nat.add_zero, Nat.zero_add, List.length_append, and_true, true_and, AV.flat, bax, get_app bax, read_get bax, read_app bax, bcx, get_app bcx, read_get bcx, read_app bcx, brx, get_app brx, read_get brx, read_app brx, hvx, one_solid hvx, one_cells hvx, chgE_cells, *, -hK, -hm, -hfa, -hrng, -back, -I, -I1, -w5] | with_reducible refine IfB_dec (fun h => ?_) (fun h => ?_) | with_reducible refine Guard_dec (fun h => ?_) (fun h => ?_) | with_reducible refine Guard_ndec (fun h => ?_) (fun h => ?_) | with_reducible refine Guard_not (fun h => ?_) (fun h => ?_) | with_reducible refine IfB_ndec (fun h => ?_) (fun h => ?_) | with_reducible refine IfB_not (fun h => ?_) (fun h => ?_) | with_reducible refine Guard_split (fun h => ?_) (fun h => ?_) | with_reducible refine IfB_split (fun h => ?_) (fun h => ?_))
        refine w5.mono ?_
        rintro w5' G5 ⟨rfl, I5⟩
        rw [moreL_at hkl, addv_addv _ _ _ (unitS_pos _ _ (by omega)), ← hDk (d := unitS 2 ((1 : Nat) : Int)) rfl, moreL_set hkl (fun t h => hDo t h)] at I5
        repeat' (first | simp only [go_sem, Nat.reduceLT, Nat.reduceEqDiff, Nat.reduceAdd, Nat.reduceMul, Nat.reduceSub, Nat.reduceLeDiff, Int.reduceToNat, Int.reduceNeg, Int.reduceLT, Int.reduceLE, Int.reduceEq, reduceCtorEq, Int.natCast_zero, Int.natCast_one, Int.cast_ofNat_Int, Bool.not_not, false_eq_decide, true_eq_decide, hread0, hreadk, read_cons0, read_consk, astore_h0, astore_hk, hget0, hgetk, hset0, hsetk, hlen, hcat, Nat.add_assoc, Nat.add_zero, Nat.zero_add, List.length_append, and_true, true_and, AV.flat, *, -hK, -hm, -hfa, -hrng, -back, -I, -I1, -w5, -I5] | with_reducible refine IfB_dec (fun h => ?_) (fun h => ?_) | with_reducible refine Guard_dec (fun h => ?_) (fun h => ?_) | with_reducible refine Guard_ndec (fun h => ?_) (fun h => ?_) | with_reducible refine Guard_not (fun h => ?_) (fun h => ?_) | with_reducible refine IfB_ndec (fun h => ?_) (fun h => ?_) | with_reducible refine IfB_not (fun h => ?_) (fun h => ?_) | with_reducible refine Guard_split (fun h => ?_) (fun h => ?_) | with_reducible refine IfB_split (fun h => ?_) (fun h => ?_))
        exact back _ _ (by (repeat (first | exact hs | refine hA _ _ _ (by decide) ?_))) (by simp only [go_sem, Nat.reduceLT, Nat.reduceEqDiff, Nat.reduceAdd, Nat.reduceMul, Nat.reduceSub, Nat.reduceLeDiff, Int.reduceToNat, Int.reduceNeg, Int.reduceLT, Int.reduceLE, Int.reduceEq, reduceCtorEq]) I5
      by_cases k2 : kd = 2
      · subst k2
        by_cases k3 : wy = 1
        · subst k3
          obtain ⟨b5, p5, e5, w5⟩ := I1.ups (i := k) (by rw [moreL_len]; exact hkl) 3 (by decide) (by rw [moreL_at hkl]; exact addv_rng _ _ (hrng k hkl) (add_pos (cmdT_pos _ _ (cmdD_pos _ _ _ _)) (sumT_pos _ _)).1) 1 (by omega)
          repeat' (first | simp only [go_sem, Nat.reduceLT, Nat.reduceEqDiff, Nat.reduceAdd, Nat.reduceMul, Nat.reduceSub, Nat.reduceLeDiff, Int.reduceToNat, Int.reduceNeg, Int.reduceLT, Int.reduceLE, Int.reduceEq, reduceCtorEq, Int.natCast_zero, Int.natCast_one, Int.cast_ofNat_Int, Bool.not_not, false_eq_decide, true_eq_decide, hread0, hreadk, read_cons0, read_consk, astore_h0, astore_hk, hget0, hgetk, hset0, hsetk, hlen, hcat, Nat.add_assoc, Nat.add_zero, Nat.zero_add, List.length_append, and_true, true_and, AV.flat, bax, get_app bax, read_get bax, read_app bax, bcx, get_app bcx, read_get bcx, read_app bcx, brx, get_app brx, read_get brx, read_app brx, hvx, one_solid hvx, one_cells hvx, chgE_cells, *, -hK, -hm, -hfa, -hrng, -back, -I, -I1, -w5] | with_reducible refine IfB_dec (fun h => ?_) (fun h => ?_) | with_reducible refine Guard_dec (fun h => ?_) (fun h => ?_) | with_reducible refine Guard_ndec (fun h => ?_) (fun h => ?_) | with_reducible refine Guard_not (fun h => ?_) (fun h => ?_) | with_reducible refine IfB_ndec (fun h => ?_) (fun h => ?_) | with_reducible refine IfB_not (fun h => ?_) (fun h => ?_) | with_reducible refine Guard_split (fun h => ?_) (fun h => ?_) | with_reducible refine IfB_split (fun h => ?_) (fun h => ?_))
          refine w5.mono ?_
          rintro w5' G5 ⟨rfl, I5⟩
          rw [moreL_at hkl, addv_addv _ _ _ (unitS_pos _ _ (by omega)), ← hDk (d := unitS 3 ((1 : Nat) : Int)) rfl, moreL_set hkl (fun t h => hDo t h)] at I5
          repeat' (first | simp only [go_sem, Nat.reduceLT, Nat.reduceEqDiff, Nat.reduceAdd, Nat.reduceMul, Nat.reduceSub, Nat.reduceLeDiff, Int.reduceToNat, Int.reduceNeg, Int.reduceLT, Int.reduceLE, Int.reduceEq, reduceCtorEq, Int.natCast_zero, Int.natCast_one, Int.cast_ofNat_Int, Bool.not_not, false_eq_decide, true_eq_decide, hread0, hreadk, read_cons0, read_consk, astore_h0, astore_hk, hget0, hgetk, hset0, hsetk, hlen, hcat, Nat.add_assoc, Nat.add_zero, Nat.zero_add, List.length_append, and_true, true_and, AV.flat, *, -hK, -hm, -hfa, -hrng, -back, -I, -I1, -w5, -I5] | with_reducible refine IfB_dec (fun h => ?_) (fun h => ?_) | with_reducible refine Guard_dec (fun h => ?_) (fun h => ?_) | with_reducible refine Guard_ndec (fun h => ?_) (fun h => ?_) | with_reducible refine Guard_not (fun h => ?_) (fun h => ?_) | with_reducible refine IfB_ndec (fun h => ?_) (fun h => ?_) | with_reducible refine IfB_not (fun h => ?_) (fun h => ?_) | with_reducible refine Guard_split (fun h => ?_) (fun h => ?_) | with_reducible refine IfB_split (fun h => ?_) (fun h => ?_))
          exact back _ _ (by (repeat (first | exact hs | refine hA _ _ _ (by decide) ?_))) (by simp only [go_sem, Nat.reduceLT, Nat.reduceEqDiff, Nat.reduceAdd, Nat.reduceMul, Nat.reduceSub, Nat.reduceLeDiff, Int.reduceToNat, Int.reduceNeg, Int.reduceLT, Int.reduceLE, Int.reduceEq, reduceCtorEq]) I5
        · skip
          obtain ⟨b5, p5, e5, w5⟩ := I1.ups (i := k) (by rw [moreL_len]; exact hkl) 4 (by decide) (by rw [moreL_at hkl]; exact addv_rng _ _ (hrng k hkl) (add_pos (cmdT_pos _ _ (cmdD_pos _ _ _ _)) (sumT_pos _ _)).1) 1 (by omega)
          repeat' (first | simp only [go_sem, Nat.reduceLT, Nat.reduceEqDiff, Nat.reduceAdd, Nat.reduceMul, Nat.reduceSub, Nat.reduceLeDiff, Int.reduceToNat, Int.reduceNeg, Int.reduceLT, Int.reduceLE, Int.reduceEq, reduceCtorEq, Int.natCast_zero, Int.natCast_one, Int.cast_ofNat_Int, Bool.not_not, false_eq_decide, true_eq_decide, hread0, hreadk, read_cons0, read_consk, astore_h0, astore_hk, hget0, hgetk, hset0, hsetk, hlen, hcat, Nat.add_assoc, Nat.add_zero, Nat.zero_add, List.length_append, and_true, true_and, AV.flat, bax, get_app bax, read_get bax, read_app bax, bcx, get_app bcx, read_get bcx, read_app bcx, brx, get_app brx, read_get brx, read_app brx, hvx, one_solid hvx, one_cells hvx, chgE_cells, *, -hK, -hm, -hfa, -hrng, -back, -I, -I1, -w5] | with_reducible refine IfB_dec (fun h => ?_) (fun h => ?_) | with_reducible refine Guard_dec (fun h => ?_) (fun h => ?_) | with_reducible refine Guard_ndec (fun h => ?_) (fun h => ?_) | with_reducible refine Guard_not (fun h => ?_) (fun h => ?_) | with_reducible refine IfB_ndec (fun h => ?_) (fun h => ?_) | with_reducible refine IfB_not (fun h => ?_) (fun h => ?_) | with_reducible refine Guard_split (fun h => ?_) (fun h => ?_) | with_reducible refine IfB_split (fun h => ?_) (fun h => ?_))
          refine w5.mono ?_
          rintro w5' G5 ⟨rfl, I5⟩
          rw [moreL_at hkl, addv_addv _ _ _ (unitS_pos _ _ (by omega)), ← hDk (d := unitS 4 ((1 : Nat) : Int)) (by unfold chgD; rw [if_neg (by simp), if_neg (fun h => k3 h.2), if_pos rfl]; rfl), moreL_set hkl (fun t h => hDo t h)] at I5
          repeat' (first | simp only [go_sem, Nat.reduceLT, Nat.reduceEqDiff, Nat.reduceAdd, Nat.reduceMul, Nat.reduceSub, Nat.reduceLeDiff, Int.reduceToNat, Int.reduceNeg, Int.reduceLT, Int.reduceLE, Int.reduceEq, reduceCtorEq, Int.natCast_zero, Int.natCast_one, Int.cast_ofNat_Int, Bool.not_not, false_eq_decide, true_eq_decide, hread0, hreadk, read_cons0, read_consk, astore_h0, astore_hk, hget0, hgetk, hset0, hsetk, hlen, hcat, Nat.add_assoc, Nat.add_zero, Nat.zero_add, List.length_append, and_true, true_and, AV.flat, *, -hK, -hm, -hfa, -hrng, -back, -I, -I1, -w5, -I5] | with_reducible refine IfB_dec (fun h => ?_) (fun h => ?_) | with_reducible refine Guard_dec (fun h => ?_) (fun h => ?_) | with_reducible refine Guard_ndec (fun h => ?_) (fun h => ?_) | with_reducible refine Guard_not (fun h => ?_) (fun h => ?_) | with_reducible refine IfB_ndec (fun h => ?_) (fun h => ?_) | with_reducible refine IfB_not (fun h => ?_) (fun h => ?_) | with_reducible refine Guard_split (fun h => ?_) (fun h => ?_) | with_reducible refine IfB_split (fun h => ?_) (fun h => ?_))
          exact back _ _ (by (repeat (first | exact hs | refine hA _ _ _ (by decide) ?_))) (by simp only [go_sem, Nat.reduceLT, Nat.reduceEqDiff, Nat.reduceAdd, Nat.reduceMul, Nat.reduceSub, Nat.reduceLeDiff, Int.reduceToNat, Int.reduceNeg, Int.reduceLT, Int.reduceLE, Int.reduceEq, reduceCtorEq]) I5
      obtain ⟨b5, p5, e5, w5⟩ := I1.ups (i := k) (by rw [moreL_len]; exact hkl) 0 (by decide) (by rw [moreL_at hkl]; exact addv_rng _ _ (hrng k hkl) (add_pos (cmdT_pos _ _ (cmdD_pos _ _ _ _)) (sumT_pos _ _)).1) 1 (by omega)
      clear w5
      have I2 := I1
      rw [moreL_congr (f := fun t => (comD c r t).add (sumT t (l.take i))) (g := fun t => (comD c r t).add (sumT t (l.take (i + 1)))) (fun t h => (Classical.em (t = k)).elim (fun e => by subst e; rw [hDk (d := stat0) (by unfold chgD; rw [if_neg k1, if_neg (fun h => k2 h.1), if_neg k2])]; simp [Stat.add, stat0]) (fun h => (hDo t h).symm))] at I2
      repeat' (first | simp only [go_sem, Nat.reduceLT, Nat.reduceEqDiff, Nat.reduceAdd, Nat.reduceMul, Nat.reduceSub, Nat.reduceLeDiff, Int.reduceToNat, Int.reduceNeg, Int.reduceLT, Int.reduceLE, Int.reduceEq, reduceCtorEq, Int.natCast_zero, Int.natCast_one, Int.cast_ofNat_Int, Bool.not_not, false_eq_decide, true_eq_decide, hread0, hreadk, read_cons0, read_consk, astore_h0, astore_hk, hget0, hgetk, hset0, hsetk, hlen, hcat, Nat.add_assoc, Nat.add_zero, Nat.zero_add, List.length_append, and_true, true_and, AV.flat, bax, get_app bax, read_get bax, read_app bax, hvx, one_solid hvx, one_cells hvx, chgE_cells, *, -hK, -hm, -hfa, -hrng, -back, -I, -I1, -I2, -bcx, -brx, -b8x, -hDo, -hDk] | with_reducible refine IfB_dec (fun h => ?_) (fun h => ?_) | with_reducible refine Guard_dec (fun h => ?_) (fun h => ?_) | with_reducible refine Guard_ndec (fun h => ?_) (fun h => ?_) | with_reducible refine Guard_not (fun h => ?_) (fun h => ?_) | with_reducible refine IfB_ndec (fun h => ?_) (fun h => ?_) | with_reducible refine IfB_not (fun h => ?_) (fun h => ?_) | with_reducible refine Guard_split (fun h => ?_) (fun h => ?_) | with_reducible refine IfB_split (fun h => ?_) (fun h => ?_))
      exact back _ _ (by (repeat (first | exact hs | refine hA _ _ _ (by decide) ?_))) (by simp only [go_sem, Nat.reduceLT, Nat.reduceEqDiff, Nat.reduceAdd, Nat.reduceMul, Nat.reduceSub, Nat.reduceLeDiff, Int.reduceToNat, Int.reduceNeg, Int.reduceLT, Int.reduceLE, Int.reduceEq, reduceCtorEq]) I2
  · clear hv0 al0 ba0 bc0 br0 b80 w1
    have I3 := I0
    rw [← set_zero hkl (hrng k hkl)] at I3
    have hD0 : stat0.pos := by simp [Stat.pos, stat0]
    have hDr : (r.kind = 7 ∨ r.kind = 4 ∨ r.kind = 5) → cmdD c.kind c.keys.length r.kind r.its.length = stat0.add (unitS 5 ((1 : Nat) : Int)) := fun h => by
      unfold cmdD; rw [if_neg k1, if_neg k1, if_pos h]; simp [Stat.add, unitS, Stat.upd, stat0]
    have hDn : ¬ (r.kind = 7 ∨ r.kind = 4 ∨ r.kind = 5) → cmdD c.kind c.keys.length r.kind r.its.length = stat0 := fun h => by
      unfold cmdD; rw [if_neg k1, if_neg k1, if_neg h]; rfl
    have hvz := I3.ow.one
    have alz := I3.ow.alen (by decide) tk22
    have baz := I3.ba
    have bcz := I3.bc
    have brz := I3.br
    have b8z := I3.b8
    by_cases hr : r.kind = 7 ∨ r.kind = 4 ∨ r.kind = 5
    · obtain ⟨b5, p5, e5, w5⟩ := I3.ups (i := k) (by rw [List.length_set]; exact hkl) 5 (by decide) (by rw [List.getElem_set_self]; exact addv_rng _ _ (hrng k hkl) hD0) 1 (by omega)
      rw [← hkt, e1] at e5
      cases e5
      rw [set2 hkl _ _ (unitS_pos _ _ (by omega)), moreL_one hkl hm.2.2 (f := comD c r) (by unfold comD cmdT; rw [if_pos hkt, hDr hr]) (fun t h => by unfold comD cmdT; rw [if_neg (by omega)])] at w5
      clear hDr hDn
      have hr3 : r.kind = 7 ∨ (¬ r.kind = 7 ∧ r.kind = 4) ∨ (¬ r.kind = 7 ∧ ¬ r.kind = 4 ∧ r.kind = 5) := by omega
      clear hr
      rcases hr3 with r7 | ⟨n7, r4⟩ | ⟨n7, n4, r5⟩
      all_goals
        repeat' (first | simp only [go_sem, Nat.reduceLT, Nat.reduceEqDiff, Nat.reduceAdd, Nat.reduceMul, Nat.reduceSub, Nat.reduceLeDiff, Int.reduceToNat, Int.reduceNeg, Int.reduceLT, Int.reduceLE, Int.reduceEq, reduceCtorEq, Int.natCast_zero, Int.natCast_one, Int.cast_ofNat_Int, Bool.not_not, false_eq_decide, true_eq_decide, hread0, hreadk, read_cons0, read_consk, astore_h0, astore_hk, hget0, hgetk, hset0, hsetk, hlen, hcat, Nat.add_assoc, Nat.add_zero, Nat.zero_add, List.length_append, and_true, true_and, AV.flat, hbA, get_app hbA, read_get hbA, read_app hbA, astore_get hbA, astore_app hbA, get_set hbA, get_set_app hbA, read_set hbA, read_set_app hbA, astore_set hbA, astore_set_app hbA, List.set_set, hget0s, hgetks, hread0s, hreadks, List.length_set, baz, get_app baz, read_get baz, read_app baz, bcz, get_app bcz, read_get bcz, read_app bcz, brz, get_app brz, read_get brz, read_app brz, hvz, one_solid hvz, one_cells hvz, *, -hK, -hm, -hfa, -hrng, -I0, -I3, -w5, -hD0, -b8z, -hkt] | with_reducible refine IfB_dec (fun h => ?_) (fun h => ?_) | with_reducible refine Guard_dec (fun h => ?_) (fun h => ?_) | with_reducible refine Guard_ndec (fun h => ?_) (fun h => ?_) | with_reducible refine Guard_not (fun h => ?_) (fun h => ?_) | with_reducible refine IfB_ndec (fun h => ?_) (fun h => ?_) | with_reducible refine IfB_not (fun h => ?_) (fun h => ?_) | with_reducible refine Guard_split (fun h => ?_) (fun h => ?_) | with_reducible refine IfB_split (fun h => ?_) (fun h => ?_))
        refine w5.mono ?_
        rintro w5' G5 ⟨rfl, IJ⟩
        clear w5 I3 hvz alz baz bcz brz b8z
        have hvy := IJ.ow.one
        have aly := IJ.ow.alen (by decide) tk22
        have bay := IJ.ba
        have bcy := IJ.bc
        have bry := IJ.br
        have b8y := IJ.b8
        repeat' (first | simp only [go_sem, Nat.reduceLT, Nat.reduceEqDiff, Nat.reduceAdd, Nat.reduceMul, Nat.reduceSub, Nat.reduceLeDiff, Int.reduceToNat, Int.reduceNeg, Int.reduceLT, Int.reduceLE, Int.reduceEq, reduceCtorEq, Int.natCast_zero, Int.natCast_one, Int.cast_ofNat_Int, Bool.not_not, false_eq_decide, true_eq_decide, hread0, hreadk, read_cons0, read_consk, astore_h0, astore_hk, hget0, hgetk, hset0, hsetk, hlen, hcat, Nat.add_assoc, Nat.add_zero, Nat.zero_add, List.length_append, and_true, true_and, AV.flat, bay, get_app bay, read_get bay, read_app bay, bcy, get_app bcy, read_get bcy, read_app bcy, bry, get_app bry, read_get bry, read_app bry, hvy, one_solid hvy, one_cells hvy, *, -hK, -hm, -hfa, -hrng, -I0, -IJ, -hD0, -b8y, -hkt] | with_reducible refine IfB_dec (fun h => ?_) (fun h => ?_) | with_reducible refine Guard_dec (fun h => ?_) (fun h => ?_) | with_reducible refine Guard_ndec (fun h => ?_) (fun h => ?_) | with_reducible refine Guard_not (fun h => ?_) (fun h => ?_) | with_reducible refine IfB_ndec (fun h => ?_) (fun h => ?_) | with_reducible refine IfB_not (fun h => ?_) (fun h => ?_) | with_reducible refine Guard_split (fun h => ?_) (fun h => ?_) | with_reducible refine IfB_split (fun h => ?_) (fun h => ?_))
        clear hvy aly bay bcy bry b8y
        refine WX_loopS [4, 8, 14, 94, 95] (fun q fr' H' => ∃ i : Nat, q = l.length - i ∧ i ≤ l.length ∧ fr'.get 96 = .int .i64 i ∧ CntI H H' v a.dr c.cs r.cs (moreL a.ts fun t => (comD c r t).add (sumT t (l.take i)))) l.length ⟨0, rfl, by omega, by simp only [go_sem, Nat.reduceLT, Nat.reduceEqDiff, Nat.reduceAdd, Nat.reduceMul, Nat.reduceSub, Nat.reduceLeDiff, Int.reduceToNat, Int.reduceNeg, Int.reduceLT, Int.reduceLE, Int.reduceEq, reduceCtorEq]; rfl, by rw [show (fun t => (comD c r t).add (sumT t (l.take 0))) = comD c r by funext t; simp [sumT, stat0, Stat.add]]; exact IJ⟩ ?_
        clear IJ
        rintro q fr' G A R hA hs hg hR ⟨i, rfl, hi, f96, I⟩
        have s4 := hg 4 (by decide)
        have s8 := hg 8 (by decide)
        have s14 := hg 14 (by decide)
        have s94 := hg 94 (by decide)
        have s95 := hg 95 (by decide)
        simp only [Fr.get_put, Fr.get_init, List.getD_cons_zero, List.getD_cons_succ, Nat.reduceEqDiff, if_true, if_false] at s4 s8 s14 s94 s95
        refine wx_sound hT _ ?_
        by_cases hlt : i < l.length
        rotate_left
        · have i3 : ¬ (i : Int) < l.length := by omega
          rw [show i = l.length by omega, List.take_length] at I
          have hvx := I.ow.one
          have alx := I.ow.alen (by decide) tk22
          have bax := I.ba
          have bcx := I.bc
          have brx := I.br
          have b8x := I.b8
          have hne : ∀ b, v.blk = some b → H.length + 4 ≤ b := fun b hb => I.ow.ge hb
          have hle := I.ke.len
          clear hR hA
          repeat' (first | simp only [go_sem, Nat.reduceLT, Nat.reduceEqDiff, Nat.reduceAdd, Nat.reduceMul, Nat.reduceSub, Nat.reduceLeDiff, Int.reduceToNat, Int.reduceNeg, Int.reduceLT, Int.reduceLE, Int.reduceEq, reduceCtorEq, Int.natCast_zero, Int.natCast_one, Int.cast_ofNat_Int, Bool.not_not, false_eq_decide, true_eq_decide, hread0, hreadk, read_cons0, read_consk, astore_h0, astore_hk, hget0, hgetk, hset0, hsetk, hlen, hcat, Nat.add_assoc, Nat.add_zero, Nat.zero_add, List.length_append, and_true, true_and, AV.flat, b8x, get_app b8x, read_get b8x, read_app b8x, astore_get b8x, astore_app b8x, get_set b8x, get_set_app b8x, read_set b8x, read_set_app b8x, astore_set b8x, astore_set_app b8x, List.set_set, hget0s, hgetks, hread0s, hreadks, List.length_set, bax, get_app bax, read_get bax, read_app bax, hvx, one_solid hvx, one_cells hvx, *, -hK, -hm, -hfa, -hrng, -I, -hne, -bcx, -brx] | with_reducible refine IfB_dec (fun h => ?_) (fun h => ?_) | with_reducible refine Guard_dec (fun h => ?_) (fun h => ?_) | with_reducible refine Guard_ndec (fun h => ?_) (fun h => ?_) | with_reducible refine Guard_not (fun h => ?_) (fun h => ?_) | with_reducible refine IfB_ndec (fun h => ?_) (fun h => ?_) | with_reducible refine IfB_not (fun h => ?_) (fun h => ?_) | with_reducible refine Guard_split (fun h => ?_) (fun h => ?_) | with_reducible refine IfB_split (fun h => ?_) (fun h => ?_))
          refine hK _ _ ⟨⟨v, rfl, OwnE.keep (Own.mono I.ow (by omega)) (Keep.of_set rfl) (fun b hb e => by cases hb; have := hne _ e; omega)⟩, ⟨by simp; omega, fun b hb _ => by rw [List.getElem?_set_ne (by omega)]; exact I.ke.at_ b hb (by simp)⟩⟩
        have i3 : (i : Int) < l.length := by omega
        have e1 := at_enc (E := chgE) (T := T) (k := .i64) se33 hlt rfl
        have e3 := inc_id hlt hl
        obtain ⟨hx0, hx4⟩ := hfa l[i] (List.getElem_mem hlt)
        have I1 := I.keep (Keep.snoc none G (⟨[.int .u8 l[i].kind, .int .i64 l[i].ten, .str l[i].ikey, .str l[i].ival, .int .u32 l[i].ifl, .int .i64 l[i].idue, .int .u64 l[i].iuniq, .str l[i].key, .int .u8 l[i].why, .int .i64 l[i].to, .bool l[i].prim], 0, .full⟩ : Blk))
        have hvx := I.ow.one
        have alx := I.ow.alen (by decide) tk22
        have bax := I.ba
        have bcx := I.bc
        have brx := I.br
        have b8x := I.b8
        rw [moreL_len] at alx
        have hst : ∀ t, sumT t (l.take (i + 1)) = (sumT t (l.take i)).add (chgT t l[i]) := fun t => by rw [List.take_succ_eq_append_getElem hlt, sumT_snoc]
        have back : ∀ fr2 J, A fr2 → fr2.get 96 = .int .i64 ((i + 1 : Nat) : Int) → CntI H J v a.dr c.cs r.cs (moreL a.ts fun t => (comD c r t).add (sumT t (l.take (i + 1)))) → R fr2 J := fun fr2 J ha g1 g2 => hR fr2 J ha (l.length - (i + 1)) (by omega) ⟨i + 1, rfl, by omega, g1, g2⟩
        clear hR
        generalize l[i] = x at *
        obtain ⟨kd, tn, ik, iv, fl, du, un, ky, wy, to, pr⟩ := x
        simp only at hx0 hx4 I1
        rw [chgE_cells] at e1
        simp only at e1
        by_cases ht2 : tn ≥ (a.ts.length : Int)
        · have I2 := I1
          rw [moreL_congr (f := fun t => (comD c r t).add (sumT t (l.take i))) (g := fun t => (comD c r t).add (sumT t (l.take (i + 1)))) (fun t h => by rw [hst, show chgT t ⟨kd, tn, ik, iv, fl, du, un, ky, wy, to, pr⟩ = stat0 by unfold chgT; rw [if_neg (by show ¬ tn = _; omega)]]; simp [Stat.add, stat0])] at I2
          repeat' (first | simp only [go_sem, Nat.reduceLT, Nat.reduceEqDiff, Nat.reduceAdd, Nat.reduceMul, Nat.reduceSub, Nat.reduceLeDiff, Int.reduceToNat, Int.reduceNeg, Int.reduceLT, Int.reduceLE, Int.reduceEq, reduceCtorEq, Int.natCast_zero, Int.natCast_one, Int.cast_ofNat_Int, Bool.not_not, false_eq_decide, true_eq_decide, hread0, hreadk, read_cons0, read_consk, astore_h0, astore_hk, hget0, hgetk, hset0, hsetk, hlen, hcat, Nat.add_assoc, Nat.add_zero, Nat.zero_add, List.length_append, and_true, true_and, AV.flat, bax, get_app bax, read_get bax, read_app bax, hvx, one_solid hvx, one_cells hvx, chgE_cells, *, -hK, -hm, -hfa, -hrng, -back, -I, -I1, -I2, -bcx, -brx, -b8x, -hst] | with_reducible refine IfB_dec (fun h => ?_) (fun h => ?_) | with_reducible refine Guard_dec (fun h => ?_) (fun h => ?_) | with_reducible refine Guard_ndec (fun h => ?_) (fun h => ?_) | with_reducible refine Guard_not (fun h => ?_) (fun h => ?_) | with_reducible refine IfB_ndec (fun h => ?_) (fun h => ?_) | with_reducible refine IfB_not (fun h => ?_) (fun h => ?_) | with_reducible refine Guard_split (fun h => ?_) (fun h => ?_) | with_reducible refine IfB_split (fun h => ?_) (fun h => ?_))
          exact back _ _ (by (repeat (first | exact hs | refine hA _ _ _ (by decide) ?_))) (by simp only [go_sem, Nat.reduceLT, Nat.reduceEqDiff, Nat.reduceAdd, Nat.reduceMul, Nat.reduceSub, Nat.reduceLeDiff, Int.reduceToNat, Int.reduceNeg, Int.reduceLT, Int.reduceLE, Int.reduceEq, reduceCtorEq]) I2
        obtain ⟨k, rfl⟩ : ∃ k : Nat, tn = (k : Int) := ⟨tn.toNat, by omega⟩
        have hkl : k < a.ts.length := by omega
        have hDo : ∀ t, t ≠ k → (comD c r t).add (sumT t (l.take (i + 1))) = (comD c r t).add (sumT t (l.take i)) := fun t h => by
          rw [hst, show chgT t ⟨kd, (k : Int), ik, iv, fl, du, un, ky, wy, to, pr⟩ = stat0 by unfold chgT; rw [if_neg (by show ¬ (k : Int) = _; omega)]]; simp [Stat.add, stat0]
        have hDk : ∀ {d : Stat}, chgD ⟨kd, (k : Int), ik, iv, fl, du, un, ky, wy, to, pr⟩ = d → (comD c r k).add (sumT k (l.take (i + 1))) = ((comD c r k).add (sumT k (l.take i))).add d := fun {d} h => by
          rw [hst, show chgT k ⟨kd, (k : Int), ik, iv, fl, du, un, ky, wy, to, pr⟩ = d by unfold chgT; rw [if_pos rfl, h]]; simp only [Stat.add, Stat.mk.injEq]; omega
        clear hst
        by_cases k1 : kd = 1
        · subst k1
          obtain ⟨b5, p5, e5, w5⟩ := I1.ups (i := k) (by rw [moreL_len]; exact hkl) 2 (by decide) (by rw [moreL_at hkl]; exact addv_rng _ _ (hrng k hkl) (add_pos (cmdT_pos _ _ (cmdD_pos _ _ _ _)) (sumT_pos _ _)).1) 1 (by omega)
          repeat' (first | simp only [go_sem, Nat.reduceLT, Nat.reduceEqDiff, Nat.reduceAdd, Nat.reduceMul, Nat.reduceSub, Nat.reduceLeDiff, Int.reduceToNat, Int.reduceNeg, Int.reduceLT, Int.reduceLE, Int.reduceEq, reduceCtorEq, Int.natCast_zero, Int.natCast_one, Int.cast_ofNat_Int, Bool.not_not, false_eq_decide, true_eq_decide, hread0, hreadk, read_cons0, read_consk, astore_h0, astore_hk, hget0, hgetk, hset0, hsetk, hlen, hcat, Nat.add_assoc, Nat.add_zero, Nat.zero_add, List.length_append, and_true, true_and, AV.flat, bax, get_app bax, read_get bax, read_app bax, bcx, get_app bcx, read_get bcx, read_app bcx, brx, get_app brx, read_get brx, read_app brx, hvx, one_solid hvx, one_cells hvx, chgE_cells, *, -hK, -hm, -hfa, -hrng, -back, -I, -I1, -w5] | with_reducible refine IfB_dec (fun h => ?_) (fun h => ?_) | with_reducible refine Guard_dec (fun h => ?_) (fun h => ?_) | with_reducible refine Guard_ndec (fun h => ?_) (fun h => ?_) | with_reducible refine Guard_not (fun h => ?_) (fun h => ?_) | with_reducible refine IfB_ndec (fun h => ?_) (fun h => ?_) | with_reducible refine IfB_not (fun h => ?_) (fun h => ?_) | with_reducible refine Guard_split (fun h => ?_) (fun h => ?_) | with_reducible refine IfB_split (fun h => ?_) (fun h => ?_))
          refine w5.mono ?_
          rintro w5' G5 ⟨rfl, I5⟩
          rw [moreL_at hkl, addv_addv _ _ _ (unitS_pos _ _ (by omega)), ← hDk (d := unitS 2 ((1 : Nat) : Int)) rfl, moreL_set hkl (fun t h => hDo t h)] at I5
          repeat' (first | simp only [go_sem, Nat.reduceLT, Nat.reduceEqDiff, Nat.reduceAdd, Nat.reduceMul, Nat.reduceSub, Nat.reduceLeDiff, Int.reduceToNat, Int.reduceNeg, Int.reduceLT, Int.reduceLE, Int.reduceEq, reduceCtorEq, Int.natCast_zero, Int.natCast_one, Int.cast_ofNat_Int, Bool.not_not, false_eq_decide, true_eq_decide, hread0, hreadk, read_cons0, read_consk, astore_h0, astore_hk, hget0, hgetk, hset0, hsetk, hlen, hcat, Nat.add_assoc, Nat.add_zero, Nat.zero_add, List.length_append, and_true, true_and, AV.flat, *, -hK, -hm, -hfa, -hrng, -back, -I, -I1, -w5, -I5] | with_reducible refine IfB_dec (fun h => ?_) (fun h => ?_) | with_reducible refine Guard_dec (fun h => ?_) (fun h => ?_) | with_reducible refine Guard_ndec (fun h => ?_) (fun h => ?_) | with_reducible refine Guard_not (fun h => ?_) (fun h => ?_) | with_reducible refine IfB_ndec (fun h => ?_) (fun h => ?_) | with_reducible refine IfB_not (fun h => ?_) (fun h => ?_) | with_reducible refine Guard_split (fun h => ?_) (fun h => ?_) | with_reducible refine IfB_split (fun h => ?_) (fun h => ?_))
          exact back _ _ (by (repeat (first | exact hs | refine hA _ _ _ (by decide) ?_))) (by simp only [go_sem, Nat.reduceLT, Nat.reduceEqDiff, Nat.reduceAdd, Nat.reduceMul, Nat.reduceSub, Nat.reduceLeDiff, Int.reduceToNat, Int.reduceNeg, Int.reduceLT, Int.reduceLE, Int.reduceEq, reduceCtorEq]) I5
        by_cases k2 : kd = 2
        · subst k2
          by_cases k3 : wy = 1
          · subst k3
            obtain ⟨b5, p5, e5, w5⟩ := I1.ups (i := k) (by rw [moreL_len]; exact hkl) 3 (by decide) (by rw [moreL_at hkl]; exact addv_rng _ _ (hrng k hkl) (add_pos (cmdT_pos _ _ (cmdD_pos _ _ _ _)) (sumT_pos _ _)).1) 1 (by omega)
            repeat' (first | simp only [go_sem, Nat.reduceLT, Nat.reduceEqDiff, Nat.reduceAdd, Nat.reduceMul, Nat.reduceSub, Nat.reduceLeDiff, Int.reduceToNat, Int.reduceNeg, Int.reduceLT, Int.reduceLE, Int.reduceEq, reduceCtorEq, Int.natCast_zero, Int.natCast_one, Int.cast_ofNat_Int, Bool.not_not, false_eq_decide, true_eq_decide, hread0, hreadk, read_cons0, read_consk, astore_h0, astore_hk, hget0, hgetk, hset0, hsetk, hlen, hcat, Nat.add_assoc, Nat.add_zero, Nat.zero_add, List.length_append, and_true, true_and, AV.flat, bax, get_app bax, read_get bax, read_app bax, bcx, get_app bcx, read_get bcx, read_app bcx, brx, get_app brx, read_get brx, read_app brx, hvx, one_solid hvx, one_cells hvx, chgE_cells, *, -hK, -hm, -hfa, -hrng, -back, -I, -I1, -w5] | with_reducible refine IfB_dec (fun h => ?_) (fun h => ?_) | with_reducible refine Guard_dec (fun h => ?_) (fun h => ?_) | with_reducible refine Guard_ndec (fun h => ?_) (fun h => ?_) | with_reducible refine Guard_not (fun h => ?_) (fun h => ?_) | with_reducible refine IfB_ndec (fun h => ?_) (fun h => ?_) | with_reducible refine IfB_not (fun h => ?_) (fun h => ?_) | with_reducible refine Guard_split (fun h => ?_) (fun h => ?_) | with_reducible refine IfB_split (fun h => ?_) (fun h => ?_))
            refine w5.mono ?_
            rintro w5' G5 ⟨rfl, I5⟩
            rw [moreL_at hkl, addv_addv _ _ _ (unitS_pos _ _ (by omega)), ← hDk (d := unitS 3 ((1 : Nat) : Int)) rfl, moreL_set hkl (fun t h => hDo t h)] at I5
            repeat' (first | simp only [go_sem, Nat.reduceLT, Nat.reduceEqDiff, Nat.reduceAdd, Nat.reduceMul, Nat.reduceSub, Nat.reduceLeDiff, Int.reduceToNat, Int.reduceNeg, Int.reduceLT, Int.reduceLE, Int.reduceEq, reduceCtorEq, Int.natCast_zero, Int.natCast_one, Int.cast_ofNat_Int, Bool.not_not, false_eq_decide, true_eq_decide, hread0, hreadk, read_cons0, read_consk, astore_h0, astore_hk, hget0, hgetk, hset0, hsetk, hlen, hcat, Nat.add_assoc, Nat.add_zero, Nat.zero_add, List.length_append, and_true, true_and, AV.flat, *, -hK, -hm, -hfa, -hrng, -back, -I, -I1, -w5, -I5] | with_reducible refine IfB_dec (fun h => ?_) (fun h => ?_) | with_reducible refine Guard_dec (fun h => ?_) (fun h => ?_) | with_reducible refine Guard_ndec (fun h => ?_) (fun h => ?_) | with_reducible refine Guard_not (fun h => ?_) (fun h => ?_) | with_reducible refine IfB_ndec (fun h => ?_) (fun h => ?_) | with_reducible refine IfB_not (fun h => ?_) (fun h => ?_) | with_reducible refine Guard_split (fun h => ?_) (fun h => ?_) | with_reducible refine IfB_split (fun h => ?_) (fun h => ?_))
            exact back _ _ (by (repeat (first | exact hs | refine hA _ _ _ (by decide) ?_))) (by simp only [go_sem, Nat.reduceLT, Nat.reduceEqDiff, Nat.reduceAdd, Nat.reduceMul, Nat.reduceSub, Nat.reduceLeDiff, Int.reduceToNat, Int.reduceNeg, Int.reduceLT, Int.reduceLE, Int.reduceEq, reduceCtorEq]) I5
          · skip
            obtain ⟨b5, p5, e5, w5⟩ := I1.ups (i := k) (by rw [moreL_len]; exact hkl) 4 (by decide) (by rw [moreL_at hkl]; exact addv_rng _ _ (hrng k hkl) (add_pos (cmdT_pos _ _ (cmdD_pos _ _ _ _)) (sumT_pos _ _)).1) 1 (by omega)
            repeat' (first | simp only [go_sem, Nat.reduceLT, Nat.reduceEqDiff, Nat.reduceAdd, Nat.reduceMul, Nat.reduceSub, Nat.reduceLeDiff, Int.reduceToNat, Int.reduceNeg, Int.reduceLT, Int.reduceLE, Int.reduceEq, reduceCtorEq, Int.natCast_zero, Int.natCast_one, Int.cast_ofNat_Int, Bool.not_not, false_eq_decide, true_eq_decide, hread0, hreadk, read_cons0, read_consk, astore_h0, astore_hk, hget0, hgetk, hset0, hsetk, hlen, hcat, Nat.add_assoc, Nat.add_zero, Nat.zero_add, List.length_append, and_true, true_and, AV.flat, bax, get_app bax, read_get bax, read_app bax, bcx, get_app bcx, read_get bcx, read_app bcx, brx, get_app brx, read_get brx, read_app brx, hvx, one_solid hvx, one_cells hvx, chgE_cells, *, -hK, -hm, -hfa, -hrng, -back, -I, -I1, -w5] | with_reducible refine IfB_dec (fun h => ?_) (fun h => ?_) | with_reducible refine Guard_dec (fun h => ?_) (fun h => ?_) | with_reducible refine Guard_ndec (fun h => ?_) (fun h => ?_) | with_reducible refine Guard_not (fun h => ?_) (fun h => ?_) | with_reducible refine IfB_ndec (fun h => ?_) (fun h => ?_) | with_reducible refine IfB_not (fun h => ?_) (fun h => ?_) | with_reducible refine Guard_split (fun h => ?_) (fun h => ?_) | with_reducible refine IfB_split (fun h => ?_) (fun h => ?_))
            refine w5.mono ?_
            rintro w5' G5 ⟨rfl, I5⟩
            rw [moreL_at hkl, addv_addv _ _ _ (unitS_pos _ _ (by omega)), ← hDk (d := unitS 4 ((1 : Nat) : Int)) (by unfold chgD; rw [if_neg (by simp), if_neg (fun h => k3 h.2), if_pos rfl]; rfl), moreL_set hkl (fun t h => hDo t h)] at I5
            repeat' (first | simp only [go_sem, Nat.reduceLT, Nat.reduceEqDiff, Nat.reduceAdd, Nat.reduceMul, Nat.reduceSub, Nat.reduceLeDiff, Int.reduceToNat, Int.reduceNeg, Int.reduceLT, Int.reduceLE, Int.reduceEq, reduceCtorEq, Int.natCast_zero, Int.natCast_one, Int.cast_ofNat_Int, Bool.not_not, false_eq_decide, true_eq_decide, hread0, hreadk, read_cons0, read_consk, astore_h0, astore_hk, hget0, hgetk, hset0, hsetk, hlen, hcat, Nat.add_assoc, Nat.add_zero, Nat.zero_add, List.length_append, and_true, true_and, AV.flat, *, -hK, -hm, -hfa, -hrng, -back, -I, -I1, -w5, -I5] | with_reducible refine IfB_dec (fun h => ?_) (fun h => ?_) | with_reducible refine Guard_dec (fun h => ?_) (fun h => ?_) | with_reducible refine Guard_ndec (fun h => ?_) (fun h => ?_) | with_reducible refine Guard_not (fun h => ?_) (fun h => ?_) | with_reducible refine IfB_ndec (fun h => ?_) (fun h => ?_) | with_reducible refine IfB_not (fun h => ?_) (fun h => ?_) | with_reducible refine Guard_split (fun h => ?_) (fun h => ?_) | with_reducible refine IfB_split (fun h => ?_) (fun h => ?_))
            exact back _ _ (by (repeat (first | exact hs | refine hA _ _ _ (by decide) ?_))) (by simp only [go_sem, Nat.reduceLT, Nat.reduceEqDiff, Nat.reduceAdd, Nat.reduceMul, Nat.reduceSub, Nat.reduceLeDiff, Int.reduceToNat, Int.reduceNeg, Int.reduceLT, Int.reduceLE, Int.reduceEq, reduceCtorEq]) I5
        obtain ⟨b5, p5, e5, w5⟩ := I1.ups (i := k) (by rw [moreL_len]; exact hkl) 0 (by decide) (by rw [moreL_at hkl]; exact addv_rng _ _ (hrng k hkl) (add_pos (cmdT_pos _ _ (cmdD_pos _ _ _ _)) (sumT_pos _ _)).1) 1 (by omega)
        clear w5
        have I2 := I1
        rw [moreL_congr (f := fun t => (comD c r t).add (sumT t (l.take i))) (g := fun t => (comD c r t).add (sumT t (l.take (i + 1)))) (fun t h => (Classical.em (t = k)).elim (fun e => by subst e; rw [hDk (d := stat0) (by unfold chgD; rw [if_neg k1, if_neg (fun h => k2 h.1), if_neg k2])]; simp [Stat.add, stat0]) (fun h => (hDo t h).symm))] at I2
        repeat' (first | simp only [go_sem, Nat.reduceLT, Nat.reduceEqDiff, Nat.reduceAdd, Nat.reduceMul, Nat.reduceSub, Nat.reduceLeDiff, Int.reduceToNat, Int.reduceNeg, Int.reduceLT, Int.reduceLE, Int.reduceEq, reduceCtorEq, Int.natCast_zero, Int.natCast_one, Int.cast_ofNat_Int, Bool.not_not, false_eq_decide, true_eq_decide, hread0, hreadk, read_cons0, read_consk, astore_h0, astore_hk, hget0, hgetk, hset0, hsetk, hlen, hcat, Nat.add_assoc, Nat.add_zero, Nat.zero_add, List.length_append, and_true, true_and, AV.flat, bax, get_app bax, read_get bax, read_app bax, hvx, one_solid hvx, one_cells hvx, chgE_cells, *, -hK, -hm, -hfa, -hrng, -back, -I, -I1, -I2, -bcx, -brx, -b8x, -hDo, -hDk] | with_reducible refine IfB_dec (fun h => ?_) (fun h => ?_) | with_reducible refine Guard_dec (fun h => ?_) (fun h => ?_) | with_reducible refine Guard_ndec (fun h => ?_) (fun h => ?_) | with_reducible refine Guard_not (fun h => ?_) (fun h => ?_) | with_reducible refine IfB_ndec (fun h => ?_) (fun h => ?_) | with_reducible refine IfB_not (fun h => ?_) (fun h => ?_) | with_reducible refine Guard_split (fun h => ?_) (fun h => ?_) | with_reducible refine IfB_split (fun h => ?_) (fun h => ?_))
        exact back _ _ (by (repeat (first | exact hs | refine hA _ _ _ (by decide) ?_))) (by simp only [go_sem, Nat.reduceLT, Nat.reduceEqDiff, Nat.reduceAdd, Nat.reduceMul, Nat.reduceSub, Nat.reduceLeDiff, Int.reduceToNat, Int.reduceNeg, Int.reduceLT, Int.reduceLE, Int.reduceEq, reduceCtorEq]) I2
    · have n7 : ¬ r.kind = 7 := fun h => hr (.inl h)
      have n4 : ¬ r.kind = 4 := fun h => hr (.inr (.inl h))
      have n5 : ¬ r.kind = 5 := fun h => hr (.inr (.inr h))
      have IJ := I3
      rw [moreL_one hkl hm.2.2 (f := comD c r) (by unfold comD cmdT; rw [if_pos hkt, hDn hr]) (fun t h => by unfold comD cmdT; rw [if_neg (by omega)])] at IJ
      clear hr hDr hDn
      repeat' (first | simp only [go_sem, Nat.reduceLT, Nat.reduceEqDiff, Nat.reduceAdd, Nat.reduceMul, Nat.reduceSub, Nat.reduceLeDiff, Int.reduceToNat, Int.reduceNeg, Int.reduceLT, Int.reduceLE, Int.reduceEq, reduceCtorEq, Int.natCast_zero, Int.natCast_one, Int.cast_ofNat_Int, Bool.not_not, false_eq_decide, true_eq_decide, hread0, hreadk, read_cons0, read_consk, astore_h0, astore_hk, hget0, hgetk, hset0, hsetk, hlen, hcat, Nat.add_assoc, Nat.add_zero, Nat.zero_add, List.length_append, and_true, true_and, AV.flat, hbA, get_app hbA, read_get hbA, read_app hbA, astore_get hbA, astore_app hbA, get_set hbA, get_set_app hbA, read_set hbA, read_set_app hbA, astore_set hbA, astore_set_app hbA, List.set_set, hget0s, hgetks, hread0s, hreadks, List.length_set, baz, get_app baz, read_get baz, read_app baz, bcz, get_app bcz, read_get bcz, read_app bcz, brz, get_app brz, read_get brz, read_app brz, hvz, one_solid hvz, one_cells hvz, *, -hK, -hm, -hfa, -hrng, -I0, -I3, -IJ, -hD0, -b8z, -hkt] | with_reducible refine IfB_dec (fun h => ?_) (fun h => ?_) | with_reducible refine Guard_dec (fun h => ?_) (fun h => ?_) | with_reducible refine Guard_ndec (fun h => ?_) (fun h => ?_) | with_reducible refine Guard_not (fun h => ?_) (fun h => ?_) | with_reducible refine IfB_ndec (fun h => ?_) (fun h => ?_) | with_reducible refine IfB_not (fun h => ?_) (fun h => ?_) | with_reducible refine Guard_split (fun h => ?_) (fun h => ?_) | with_reducible refine IfB_split (fun h => ?_) (fun h => ?_))
      clear I3 hvz alz baz bcz brz b8z
      refine WX_loopS [4, 8, 14, 94, 95] (fun q fr' H' => ∃ i : Nat, q = l.length - i ∧ i ≤ l.length ∧ fr'.get 96 = .int .i64 i ∧ CntI H H' v a.dr c.cs r.cs (moreL a.ts fun t => (comD c r t).add (sumT t (l.take i)))) l.length ⟨0, rfl, by omega, by simp only [go_sem, Nat.reduceLT, Nat.reduceEqDiff, Nat.reduceAdd, Nat.reduceMul, Nat.reduceSub, Nat.reduceLeDiff, Int.reduceToNat, Int.reduceNeg, Int.reduceLT, Int.reduceLE, Int.reduceEq, reduceCtorEq]; rfl, by rw [show (fun t => (comD c r t).add (sumT t (l.take 0))) = comD c r by funext t; simp [sumT, stat0, Stat.add]]; exact IJ⟩ ?_
      clear IJ
      rintro q fr' G A R hA hs hg hR ⟨i, rfl, hi, f96, I⟩
      have s4 := hg 4 (by decide)
      have s8 := hg 8 (by decide)
      have s14 := hg 14 (by decide)
      have s94 := hg 94 (by decide)
      have s95 := hg 95 (by decide)
      simp only [Fr.get_put, Fr.get_init, List.getD_cons_zero, List.getD_cons_succ, Nat.reduceEqDiff, if_true, if_false] at s4 s8 s14 s94 s95
      refine wx_sound hT _ ?_
      by_cases hlt : i < l.length
      rotate_left
      · have i3 : ¬ (i : Int) < l.length := by omega
        rw [show i = l.length by omega, List.take_length] at I
        have hvx := I.ow.one
        have alx := I.ow.alen (by decide) tk22
        have bax := I.ba
        have bcx := I.bc
        have brx := I.br
        have b8x := I.b8
        have hne : ∀ b, v.blk = some b → H.length + 4 ≤ b := fun b hb => I.ow.ge hb
        have hle := I.ke.len
        clear hR hA
        repeat' (first | simp only [go_sem, Nat.reduceLT, Nat.reduceEqDiff, Nat.reduceAdd, Nat.reduceMul, Nat.reduceSub, Nat.reduceLeDiff, Int.reduceToNat, Int.reduceNeg, Int.reduceLT, Int.reduceLE, Int.reduceEq, reduceCtorEq, Int.natCast_zero, Int.natCast_one, Int.cast_ofNat_Int, Bool.not_not, false_eq_decide, true_eq_decide, hread0, hreadk, read_cons0, read_consk, astore_h0, astore_hk, hget0, hgetk, hset0, hsetk, hlen, hcat, Nat.add_assoc, Nat.add_zero, Nat.zero_add, List.length_append, and_true, true_and, AV.flat, b8x, get_app b8x, read_get b8x, read_app b8x, astore_get b8x, astore_app b8x, get_set b8x, get_set_app b8x, read_set b8x, read_set_app b8x, astore_set b8x, astore_set_app b8x, List.set_set, hget0s, hgetks, hread0s, hreadks, List.length_set, bax, get_app bax, read_get bax, read_app bax, hvx, one_solid hvx, one_cells hvx, *, -hK, -hm, -hfa, -hrng, -I, -hne, -bcx, -brx] | with_reducible refine IfB_dec (fun h => ?_) (fun h => ?_) | with_reducible refine Guard_dec (fun h => ?_) (fun h => ?_) | with_reducible refine Guard_ndec (fun h => ?_) (fun h => ?_) | with_reducible refine Guard_not (fun h => ?_) (fun h => ?_) | with_reducible refine IfB_ndec (fun h => ?_) (fun h => ?_) | with_reducible refine IfB_not (fun h => ?_) (fun h => ?_) | with_reducible refine Guard_split (fun h => ?_) (fun h => ?_) | with_reducible refine IfB_split (fun h => ?_) (fun h => ?_))
        refine hK _ _ ⟨⟨v, rfl, OwnE.keep (Own.mono I.ow (by omega)) (Keep.of_set rfl) (fun b hb e => by cases hb; have := hne _ e; omega)⟩, ⟨by simp; omega, fun b hb _ => by rw [List.getElem?_set_ne (by omega)]; exact I.ke.at_ b hb (by simp)⟩⟩
      have i3 : (i : Int) < l.length := by omega
      have e1 := at_enc (E := chgE) (T := T) (k := .i64) se33 hlt rfl
      have e3 := inc_id hlt hl
      obtain ⟨hx0, hx4⟩ := hfa l[i] (List.getElem_mem hlt)
      have I1 := I.keep (Keep.snoc none G (⟨[.int .u8 l[i].kind, .int .i64 l[i].ten, .str l[i].ikey, .str l[i].ival, .int .u32 l[i].ifl, .int .i64 l[i].idue, .int .u64 l[i].iuniq, .str l[i].key, .int .u8 l[i].why, .int .i64 l[i].to, .bool l[i].prim], 0, .full⟩ : Blk))
      have hvx := I.ow.one
      have alx := I.ow.alen (by decide) tk22
      have bax := I.ba
      have bcx := I.bc
      have brx := I.br
      have b8x := I.b8
      rw [moreL_len] at alx
      have hst : ∀ t, sumT t (l.take (i + 1)) = (sumT t (l.take i)).add (chgT t l[i]) := fun t => by rw [List.take_succ_eq_append_getElem hlt, sumT_snoc]
      have back : ∀ fr2 J, A fr2 → fr2.get 96 = .int .i64 ((i + 1 : Nat) : Int) → CntI H J v a.dr c.cs r.cs (moreL a.ts fun t => (comD c r t).add (sumT t (l.take (i + 1)))) → R fr2 J := fun fr2 J ha g1 g2 => hR fr2 J ha (l.length - (i + 1)) (by omega) ⟨i + 1, rfl, by omega, g1, g2⟩
      clear hR
      generalize l[i] = x at *
      obtain ⟨kd, tn, ik, iv, fl, du, un, ky, wy, to, pr⟩ := x
      simp only at hx0 hx4 I1
      rw [chgE_cells] at e1
      simp only at e1
      by_cases ht2 : tn ≥ (a.ts.length : Int)
      · have I2 := I1
        rw [moreL_congr (f := fun t => (comD c r t).add (sumT t (l.take i))) (g := fun t => (comD c r t).add (sumT t (l.take (i + 1)))) (fun t h => by rw [hst, show chgT t ⟨kd, tn, ik, iv, fl, du, un, ky, wy, to, pr⟩ = stat0 by unfold chgT; rw [if_neg (by show ¬ tn = _; omega)]]; simp [Stat.add, stat0])] at I2
        repeat' (first | simp only [go_sem, Nat.reduceLT, Nat.reduceEqDiff, Nat.reduceAdd, Nat.reduceMul, Nat.reduceSub, Nat.reduceLeDiff, Int.reduceToNat, Int.reduceNeg, Int.reduceLT, Int.reduceLE, Int.reduceEq, reduceCtorEq, Int.natCast_zero, Int.natCast_one, Int.cast_ofNat_Int, Bool.not_not, false_eq_decide, true_eq_decide, hread0, hreadk, read_cons0, read_consk, astore_h0, astore_hk, hget0, hgetk, hset0, hsetk, hlen, hcat, Nat.add_assoc, Nat.add_zero, Nat.zero_add, List.length_append, and_true, true_and, AV.flat, bax, get_app bax, read_get bax, read_app bax, hvx, one_solid hvx, one_cells hvx, chgE_cells, *, -hK, -hm, -hfa, -hrng, -back, -I, -I1, -I2, -bcx, -brx, -b8x, -hst] | with_reducible refine IfB_dec (fun h => ?_) (fun h => ?_) | with_reducible refine Guard_dec (fun h => ?_) (fun h => ?_) | with_reducible refine Guard_ndec (fun h => ?_) (fun h => ?_) | with_reducible refine Guard_not (fun h => ?_) (fun h => ?_) | with_reducible refine IfB_ndec (fun h => ?_) (fun h => ?_) | with_reducible refine IfB_not (fun h => ?_) (fun h => ?_) | with_reducible refine Guard_split (fun h => ?_) (fun h => ?_) | with_reducible refine IfB_split (fun h => ?_) (fun h => ?_))
        exact back _ _ (by (repeat (first | exact hs | refine hA _ _ _ (by decide) ?_))) (by simp only [go_sem, Nat.reduceLT, Nat.reduceEqDiff, Nat.reduceAdd, Nat.reduceMul, Nat.reduceSub, Nat.reduceLeDiff, Int.reduceToNat, Int.reduceNeg, Int.reduceLT, Int.reduceLE, Int.reduceEq, reduceCtorEq]) I2
      obtain ⟨k, rfl⟩ : ∃ k : Nat, tn = (k : Int) := ⟨tn.toNat, by omega⟩
      have hkl : k < a.ts.length := by omega
      have hDo : ∀ t, t ≠ k → (comD c r t).add (sumT t (l.take (i + 1))) = (comD c r t).add (sumT t (l.take i)) := fun t h => by
        rw [hst, show chgT t ⟨kd, (k : Int), ik, iv, fl, du, un, ky, wy, to, pr⟩ = stat0 by unfold chgT; rw [if_neg (by show ¬ (k : Int) = _; omega)]]; simp [Stat.add, stat0]
      have hDk : ∀ {d : Stat}, chgD ⟨kd, (k : Int), ik, iv, fl, du, un, ky, wy, to, pr⟩ = d → (comD c r k).add (sumT k (l.take (i + 1))) = ((comD c r k).add (sumT k (l.take i))).add d := fun {d} h => by
        rw [hst, show chgT k ⟨kd, (k : Int), ik, iv, fl, du, un, ky, wy, to, pr⟩ = d by unfold chgT; rw [if_pos rfl, h]]; simp only [Stat.add, Stat.mk.injEq]; omega
      clear hst
      by_cases k1 : kd = 1
      · subst k1
        obtain ⟨b5, p5, e5, w5⟩ := I1.ups (i := k) (by rw [moreL_len]; exact hkl) 2 (by decide) (by rw [moreL_at hkl]; exact addv_rng _ _ (hrng k hkl) (add_pos (cmdT_pos _ _ (cmdD_pos _ _ _ _)) (sumT_pos _ _)).1) 1 (by omega)
        repeat' (first | simp only [go_sem, Nat.reduceLT, Nat.reduceEqDiff, Nat.reduceAdd, Nat.reduceMul, Nat.reduceSub, Nat.reduceLeDiff, Int.reduceToNat, Int.reduceNeg, Int.reduceLT, Int.reduceLE, Int.reduceEq, reduceCtorEq, Int.natCast_zero, Int.natCast_one, Int.cast_ofNat_Int, Bool.not_not, false_eq_decide, true_eq_decide, hread0, hreadk, read_cons0, read_consk, astore_h0, astore_hk, hget0, hgetk, hset0, hsetk, hlen, hcat, Nat.add_assoc, Nat.add_zero, Nat.zero_add, List.length_append, and_true, true_and, AV.flat, bax, get_app bax, read_get bax, read_app bax, bcx, get_app bcx, read_get bcx, read_app bcx, brx, get_app brx, read_get brx, read_app brx, hvx, one_solid hvx, one_cells hvx, chgE_cells, *, -hK, -hm, -hfa, -hrng, -back, -I, -I1, -w5] | with_reducible refine IfB_dec (fun h => ?_) (fun h => ?_) | with_reducible refine Guard_dec (fun h => ?_) (fun h => ?_) | with_reducible refine Guard_ndec (fun h => ?_) (fun h => ?_) | with_reducible refine Guard_not (fun h => ?_) (fun h => ?_) | with_reducible refine IfB_ndec (fun h => ?_) (fun h => ?_) | with_reducible refine IfB_not (fun h => ?_) (fun h => ?_) | with_reducible refine Guard_split (fun h => ?_) (fun h => ?_) | with_reducible refine IfB_split (fun h => ?_) (fun h => ?_))
        refine w5.mono ?_
        rintro w5' G5 ⟨rfl, I5⟩
        rw [moreL_at hkl, addv_addv _ _ _ (unitS_pos _ _ (by omega)), ← hDk (d := unitS 2 ((1 : Nat) : Int)) rfl, moreL_set hkl (fun t h => hDo t h)] at I5
        repeat' (first | simp only [go_sem, Nat.reduceLT, Nat.reduceEqDiff, Nat.reduceAdd, Nat.reduceMul, Nat.reduceSub, Nat.reduceLeDiff, Int.reduceToNat, Int.reduceNeg, Int.reduceLT, Int.reduceLE, Int.reduceEq, reduceCtorEq, Int.natCast_zero, Int.natCast_one, Int.cast_ofNat_Int, Bool.not_not, false_eq_decide, true_eq_decide, hread0, hreadk, read_cons0, read_consk, astore_h0, astore_hk, hget0, hgetk, hset0, hsetk, hlen, hcat, Nat.add_assoc, Nat.add_zero, Nat.zero_add, List.length_append, and_true, true_and, AV.flat, *, -hK, -hm, -hfa, -hrng, -back, -I, -I1, -w5, -I5] | with_reducible refine IfB_dec (fun h => ?_) (fun h => ?_) | with_reducible refine Guard_dec (fun h => ?_) (fun h => ?_) | with_reducible refine Guard_ndec (fun h => ?_) (fun h => ?_) | with_reducible refine Guard_not (fun h => ?_) (fun h => ?_) | with_reducible refine IfB_ndec (fun h => ?_) (fun h => ?_) | with_reducible refine IfB_not (fun h => ?_) (fun h => ?_) | with_reducible refine Guard_split (fun h => ?_) (fun h => ?_) | with_reducible refine IfB_split (fun h => ?_) (fun h => ?_))
        exact back _ _ (by (repeat (first | exact hs | refine hA _ _ _ (by decide) ?_))) (by simp only [go_sem, Nat.reduceLT, Nat.reduceEqDiff, Nat.reduceAdd, Nat.reduceMul, Nat.reduceSub, Nat.reduceLeDiff, Int.reduceToNat, Int.reduceNeg, Int.reduceLT, Int.reduceLE, Int.reduceEq, reduceCtorEq]) I5
      by_cases k2 : kd = 2
      · subst k2
        by_cases k3 : wy = 1
        · subst k3
          obtain ⟨b5, p5, e5, w5⟩ := I1.ups (i := k) (by rw [moreL_len]; exact hkl) 3 (by decide) (by rw [moreL_at hkl]; exact addv_rng _ _ (hrng k hkl) (add_pos (cmdT_pos _ _ (cmdD_pos _ _ _ _)) (sumT_pos _ _)).1) 1 (by omega)
          repeat' (first | simp only [go_sem, Nat.reduceLT, Nat.reduceEqDiff, Nat.reduceAdd, Nat.reduceMul, Nat.reduceSub, Nat.reduceLeDiff, Int.reduceToNat, Int.reduceNeg, Int.reduceLT, Int.reduceLE, Int.reduceEq, reduceCtorEq, Int.natCast_zero, Int.natCast_one, Int.cast_ofNat_Int, Bool.not_not, false_eq_decide, true_eq_decide, hread0, hreadk, read_cons0, read_consk, astore_h0, astore_hk, hget0, hgetk, hset0, hsetk, hlen, hcat, Nat.add_assoc, Nat.add_zero, Nat.zero_add, List.length_append, and_true, true_and, AV.flat, bax, get_app bax, read_get bax, read_app bax, bcx, get_app bcx, read_get bcx, read_app bcx, brx, get_app brx, read_get brx, read_app brx, hvx, one_solid hvx, one_cells hvx, chgE_cells, *, -hK, -hm, -hfa, -hrng, -back, -I, -I1, -w5] | with_reducible refine IfB_dec (fun h => ?_) (fun h => ?_) | with_reducible refine Guard_dec (fun h => ?_) (fun h => ?_) | with_reducible refine Guard_ndec (fun h => ?_) (fun h => ?_) | with_reducible refine Guard_not (fun h => ?_) (fun h => ?_) | with_reducible refine IfB_ndec (fun h => ?_) (fun h => ?_) | with_reducible refine IfB_not (fun h => ?_) (fun h => ?_) | with_reducible refine Guard_split (fun h => ?_) (fun h => ?_) | with_reducible refine IfB_split (fun h => ?_) (fun h => ?_))
          refine w5.mono ?_
          rintro w5' G5 ⟨rfl, I5⟩
          rw [moreL_at hkl, addv_addv _ _ _ (unitS_pos _ _ (by omega)), ← hDk (d := unitS 3 ((1 : Nat) : Int)) rfl, moreL_set hkl (fun t h => hDo t h)] at I5
          repeat' (first | simp only [go_sem, Nat.reduceLT, Nat.reduceEqDiff, Nat.reduceAdd, Nat.reduceMul, Nat.reduceSub, Nat.reduceLeDiff, Int.reduceToNat, Int.reduceNeg, Int.reduceLT, Int.reduceLE, Int.reduceEq, reduceCtorEq, Int.natCast_zero, Int.natCast_one, Int.cast_ofNat_Int, Bool.not_not, false_eq_decide, true_eq_decide, hread0, hreadk, read_cons0, read_consk, astore_h0, astore_hk, hget0, hgetk, hset0, hsetk, hlen, hcat, Nat.add_assoc, Nat.add_zero, Nat.zero_add, List.length_append, and_true, true_and, AV.flat, *, -hK, -hm, -hfa, -hrng, -back, -I, -I1, -w5, -I5] | with_reducible refine IfB_dec (fun h => ?_) (fun h => ?_) | with_reducible refine Guard_dec (fun h => ?_) (fun h => ?_) | with_reducible refine Guard_ndec (fun h => ?_) (fun h => ?_) | with_reducible refine Guard_not (fun h => ?_) (fun h => ?_) | with_reducible refine IfB_ndec (fun h => ?_) (fun h => ?_) | with_reducible refine IfB_not (fun h => ?_) (fun h => ?_) | with_reducible refine Guard_split (fun h => ?_) (fun h => ?_) | with_reducible refine IfB_split (fun h => ?_) (fun h => ?_))
          exact back _ _ (by (repeat (first | exact hs | refine hA _ _ _ (by decide) ?_))) (by simp only [go_sem, Nat.reduceLT, Nat.reduceEqDiff, Nat.reduceAdd, Nat.reduceMul, Nat.reduceSub, Nat.reduceLeDiff, Int.reduceToNat, Int.reduceNeg, Int.reduceLT, Int.reduceLE, Int.reduceEq, reduceCtorEq]) I5
        · skip
          obtain ⟨b5, p5, e5, w5⟩ := I1.ups (i := k) (by rw [moreL_len]; exact hkl) 4 (by decide) (by rw [moreL_at hkl]; exact addv_rng _ _ (hrng k hkl) (add_pos (cmdT_pos _ _ (cmdD_pos _ _ _ _)) (sumT_pos _ _)).1) 1 (by omega)
          repeat' (first | simp only [go_sem, Nat.reduceLT, Nat.reduceEqDiff, Nat.reduceAdd, Nat.reduceMul, Nat.reduceSub, Nat.reduceLeDiff, Int.reduceToNat, Int.reduceNeg, Int.reduceLT, Int.reduceLE, Int.reduceEq, reduceCtorEq, Int.natCast_zero, Int.natCast_one, Int.cast_ofNat_Int, Bool.not_not, false_eq_decide, true_eq_decide, hread0, hreadk, read_cons0, read_consk, astore_h0, astore_hk, hget0, hgetk, hset0, hsetk, hlen, hcat, Nat.add_assoc, Nat.add_zero, Nat.zero_add, List.length_append, and_true, true_and, AV.flat, bax, get_app bax, read_get bax, read_app bax, bcx, get_app bcx, read_get bcx, read_app bcx, brx, get_app brx, read_get brx, read_app brx, hvx, one_solid hvx, one_cells hvx, chgE_cells, *, -hK, -hm, -hfa, -hrng, -back, -I, -I1, -w5] | with_reducible refine IfB_dec (fun h => ?_) (fun h => ?_) | with_reducible refine Guard_dec (fun h => ?_) (fun h => ?_) | with_reducible refine Guard_ndec (fun h => ?_) (fun h => ?_) | with_reducible refine Guard_not (fun h => ?_) (fun h => ?_) | with_reducible refine IfB_ndec (fun h => ?_) (fun h => ?_) | with_reducible refine IfB_not (fun h => ?_) (fun h => ?_) | with_reducible refine Guard_split (fun h => ?_) (fun h => ?_) | with_reducible refine IfB_split (fun h => ?_) (fun h => ?_))
          refine w5.mono ?_
          rintro w5' G5 ⟨rfl, I5⟩
          rw [moreL_at hkl, addv_addv _ _ _ (unitS_pos _ _ (by omega)), ← hDk (d := unitS 4 ((1 : Nat) : Int)) (by unfold chgD; rw [if_neg (by simp), if_neg (fun h => k3 h.2), if_pos rfl]; rfl), moreL_set hkl (fun t h => hDo t h)] at I5
          repeat' (first | simp only [go_sem, Nat.reduceLT, Nat.reduceEqDiff, Nat.reduceAdd, Nat.reduceMul, Nat.reduceSub, Nat.reduceLeDiff, Int.reduceToNat, Int.reduceNeg, Int.reduceLT, Int.reduceLE, Int.reduceEq, reduceCtorEq, Int.natCast_zero, Int.natCast_one, Int.cast_ofNat_Int, Bool.not_not, false_eq_decide, true_eq_decide, hread0, hreadk, read_cons0, read_consk, astore_h0, astore_hk, hget0, hgetk, hset0, hsetk, hlen, hcat, Nat.add_assoc, Nat.add_zero, Nat.zero_add, List.length_append, and_true, true_and, AV.flat, *, -hK, -hm, -hfa, -hrng, -back, -I, -I1, -w5, -I5] | with_reducible refine IfB_dec (fun h => ?_) (fun h => ?_) | with_reducible refine Guard_dec (fun h => ?_) (fun h => ?_) | with_reducible refine Guard_ndec (fun h => ?_) (fun h => ?_) | with_reducible refine Guard_not (fun h => ?_) (fun h => ?_) | with_reducible refine IfB_ndec (fun h => ?_) (fun h => ?_) | with_reducible refine IfB_not (fun h => ?_) (fun h => ?_) | with_reducible refine Guard_split (fun h => ?_) (fun h => ?_) | with_reducible refine IfB_split (fun h => ?_) (fun h => ?_))
          exact back _ _ (by (repeat (first | exact hs | refine hA _ _ _ (by decide) ?_))) (by simp only [go_sem, Nat.reduceLT, Nat.reduceEqDiff, Nat.reduceAdd, Nat.reduceMul, Nat.reduceSub, Nat.reduceLeDiff, Int.reduceToNat, Int.reduceNeg, Int.reduceLT, Int.reduceLE, Int.reduceEq, reduceCtorEq]) I5
      obtain ⟨b5, p5, e5, w5⟩ := I1.ups (i := k) (by rw [moreL_len]; exact hkl) 0 (by decide) (by rw [moreL_at hkl]; exact addv_rng _ _ (hrng k hkl) (add_pos (cmdT_pos _ _ (cmdD_pos _ _ _ _)) (sumT_pos _ _)).1) 1 (by omega)
      clear w5
      have I2 := I1
      rw [moreL_congr (f := fun t => (comD c r t).add (sumT t (l.take i))) (g := fun t => (comD c r t).add (sumT t (l.take (i + 1)))) (fun t h => (Classical.em (t = k)).elim (fun e => by subst e; rw [hDk (d := stat0) (by unfold chgD; rw [if_neg k1, if_neg (fun h => k2 h.1), if_neg k2])]; simp [Stat.add, stat0]) (fun h => (hDo t h).symm))] at I2
      repeat' (first | simp only [go_sem, Nat.reduceLT, Nat.reduceEqDiff, Nat.reduceAdd, Nat.reduceMul, Nat.reduceSub, Nat.reduceLeDiff, Int.reduceToNat, Int.reduceNeg, Int.reduceLT, Int.reduceLE, Int.reduceEq, reduceCtorEq, Int.natCast_zero, Int.natCast_one, Int.cast_ofNat_Int, Bool.not_not, false_eq_decide, true_eq_decide, hread0, hreadk, read_cons0, read_consk, astore_h0, astore_hk, hget0, hgetk, hset0, hsetk, hlen, hcat, Nat.add_assoc, Nat.add_zero, Nat.zero_add, List.length_append, and_true, true_and, AV.flat, bax, get_app bax, read_get bax, read_app bax, hvx, one_solid hvx, one_cells hvx, chgE_cells, *, -hK, -hm, -hfa, -hrng, -back, -I, -I1, -I2, -bcx, -brx, -b8x, -hDo, -hDk] | with_reducible refine IfB_dec (fun h => ?_) (fun h => ?_) | with_reducible refine Guard_dec (fun h => ?_) (fun h => ?_) | with_reducible refine Guard_ndec (fun h => ?_) (fun h => ?_) | with_reducible refine Guard_not (fun h => ?_) (fun h => ?_) | with_reducible refine IfB_ndec (fun h => ?_) (fun h => ?_) | with_reducible refine IfB_not (fun h => ?_) (fun h => ?_) | with_reducible refine Guard_split (fun h => ?_) (fun h => ?_) | with_reducible refine IfB_split (fun h => ?_) (fun h => ?_))
      exact back _ _ (by (repeat (first | exact hs | refine hA _ _ _ (by decide) ?_))) (by simp only [go_sem, Nat.reduceLT, Nat.reduceEqDiff, Nat.reduceAdd, Nat.reduceMul, Nat.reduceSub, Nat.reduceLeDiff, Int.reduceToNat, Int.reduceNeg, Int.reduceLT, Int.reduceLE, Int.reduceEq, reduceCtorEq]) I2
theorem count_spec (a : Adm) (c : Cmd) (r : Res) (l : List Chg) (hn : a.ts.length ≤ 1000000) (hk : c.keys.length ≤ 1000) (hri : r.its.length ≤ 1000) (hl : l.length ≤ 140737488355328) (ho : ∀ x ∈ l, x.Ok) (H : Heap) :
    WC Try.prog 10 [a.av, c.av, r.av, chgE.lst l] H fun v H' => v = .tup [(countL a c r l).1.av, .int .i64 (countL a c r l).2] ∧ H' = H :=
  WC_froze (Q := fun r => r = _) ((count_own a c r l hn hk hri hl ho H).mono fun w H' ⟨⟨v, h1, h2⟩, h3⟩ => ⟨_, h1 ▸ Thaw.tup_row ⟨Thaw.agg_row ⟨h2.thaw (by decide), .bool _, trivial⟩, .int _ _, trivial⟩, h3, rfl⟩)
end Go.Proofs.Ytinejbofnjndnaa
