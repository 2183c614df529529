import Derived.Test.YtinejbofnjndnaaAdmO
set_option linter.unusedSimpArgs false
set_option linter.unusedVariables false
set_option maxRecDepth 100000
set_option maxHeartbeats 2000000
namespace Go.Proofs.Ytinejbofnjndnaa
open Go Go.Proofs Go.Proofs.PI
/-! ### counts: what is said -/
structure Stat where
  gets : Int
  hits : Int
  puts : Int
  del : Int
  evi : Int
  ref : Int
deriving instance DecidableEq for Stat
def Stat.cs (s : Stat) : List AV := [.int .i64 s.gets, .int .i64 s.hits, .int .i64 s.puts, .int .i64 s.del, .int .i64 s.evi, .int .i64 s.ref]
def Stat.av (s : Stat) : AV := .agg [.int .i64 s.gets, .int .i64 s.hits, .int .i64 s.puts, .int .i64 s.del, .int .i64 s.evi, .int .i64 s.ref]
def statE : Enc Stat := ⟨6, Stat.cs, fun _ => rfl, fun x a ha => by
  simp only [Stat.cs, List.mem_cons, List.not_mem_nil, or_false] at ha; rcases ha with rfl | rfl | rfl | rfl | rfl | rfl <;> rfl⟩
theorem statE_cells (s : Stat) : statE.cells s = [.int .i64 s.gets, .int .i64 s.hits, .int .i64 s.puts, .int .i64 s.del, .int .i64 s.evi, .int .i64 s.ref] := rfl
def Stat.ns (s : Stat) : List Int := [s.gets, s.hits, s.puts, s.del, s.evi, s.ref]
def inC (n : Int) : Prop := 0 ≤ n ∧ n ≤ 1099511627776
instance (n : Int) : Decidable (inC n) := by unfold inC; infer_instance
def Stat.may (s : Stat) : Prop := s.hits ≤ s.gets ∧ inC s.gets ∧ inC s.hits ∧ inC s.puts ∧ inC s.del ∧ inC s.evi ∧ inC s.ref
instance (s : Stat) : Decidable s.may := by unfold Stat.may; infer_instance
def Stat.rng (s : Stat) : Prop := inC s.gets ∧ inC s.hits ∧ inC s.puts ∧ inC s.del ∧ inC s.evi ∧ inC s.ref
theorem Stat.may.rng {s : Stat} (h : s.may) : s.rng := h.2
structure Adm where
  ts : List Stat
  dr : Bool
def Adm.av (a : Adm) : AV := .agg [statE.lst a.ts, .bool a.dr]
def Adm.may (a : Adm) : Prop := 1 ≤ a.ts.length ∧ a.ts.length ≤ 4 ∧ ∀ s ∈ a.ts, s.may
open Classical in
noncomputable def admE (a : Adm) : Int := if a.may then 0 else 8
def mx (x : Int) : Int := min x 1099511627776
/-- A stat with more. -/
def Stat.addv (s d : Stat) : Stat := ⟨mx (s.gets + d.gets), mx (s.hits + d.hits), mx (s.puts + d.puts), mx (s.del + d.del), mx (s.evi + d.evi), mx (s.ref + d.ref)⟩
def Stat.add (s d : Stat) : Stat := ⟨s.gets + d.gets, s.hits + d.hits, s.puts + d.puts, s.del + d.del, s.evi + d.evi, s.ref + d.ref⟩
def stat0 : Stat := ⟨0, 0, 0, 0, 0, 0⟩
def Stat.pos (s : Stat) : Prop := 0 ≤ s.gets ∧ 0 ≤ s.hits ∧ 0 ≤ s.puts ∧ 0 ≤ s.del ∧ 0 ≤ s.evi ∧ 0 ≤ s.ref
theorem addv_addv (s d e : Stat) (he : e.pos) : (s.addv d).addv e = s.addv (d.add e) := by
  obtain ⟨h1, h2, h3, h4, h5, h6⟩ := he
  simp only [Stat.addv, Stat.add, mx, Stat.mk.injEq]
  omega
theorem addv_rng (s d : Stat) (h : s.rng) (hd : d.pos) : (s.addv d).rng := by
  obtain ⟨h1, h2, h3, h4, h5, h6⟩ := h
  obtain ⟨g1, g2, g3, g4, g5, g6⟩ := hd
  simp only [Stat.addv, Stat.rng, mx, inC] at *
  omega
theorem addv_zero (s : Stat) (h : s.rng) : s.addv stat0 = s := by
  obtain ⟨h1, h2, h3, h4, h5, h6⟩ := h
  obtain ⟨g, h, p, d, e, r⟩ := s
  simp only [Stat.addv, stat0, mx, inC, Stat.mk.injEq] at *
  omega
theorem add_comm' (s d : Stat) : s.add d = d.add s := by simp only [Stat.add, Stat.mk.injEq]; omega
theorem addv_may (s d : Stat) (h : s.may) (hd : d.pos) (hh : d.hits ≤ d.gets) : (s.addv d).may := by
  obtain ⟨h0, h1, h2, h3, h4, h5, h6⟩ := h
  obtain ⟨g1, g2, g3, g4, g5, g6⟩ := hd
  simp only [Stat.addv, Stat.may, mx, inC] at *
  omega
/-- What a change counts for its tenant, and for tenant t. -/
def chgD (x : Chg) : Stat := if x.kind = 1 then ⟨0, 0, 1, 0, 0, 0⟩ else if x.kind = 2 ∧ x.why = 1 then ⟨0, 0, 0, 1, 0, 0⟩ else if x.kind = 2 then ⟨0, 0, 0, 0, 1, 0⟩ else stat0
def chgT (t : Nat) (x : Chg) : Stat := if x.ten = t then chgD x else stat0
/-- What a command counts for its tenant. -/
def cmdD (kind : Int) (nk : Nat) (rk : Int) (ri : Nat) : Stat := ⟨if kind = 1 then (nk : Int) else 0, if kind = 1 then ((min ri nk : Nat) : Int) else 0, 0, 0, 0, if rk = 7 ∨ rk = 4 ∨ rk = 5 then 1 else 0⟩
def cmdT (ten : Int) (d : Stat) (t : Nat) : Stat := if ten = t then d else stat0
def sumT (t : Nat) (l : List Chg) : Stat := l.foldl (fun s x => s.add (chgT t x)) stat0
theorem sumT_snoc (t : Nat) (l : List Chg) (x : Chg) : sumT t (l ++ [x]) = (sumT t l).add (chgT t x) := by simp [sumT, List.foldl_append]
theorem chgD_pos (x : Chg) : (chgD x).pos ∧ (chgD x).hits ≤ (chgD x).gets := by
  unfold chgD stat0
  repeat' split
  all_goals simp [Stat.pos]
theorem chgT_pos (t : Nat) (x : Chg) : (chgT t x).pos ∧ (chgT t x).hits ≤ (chgT t x).gets := by
  unfold chgT
  split
  · exact chgD_pos x
  · simp [Stat.pos, stat0]
theorem add_pos {s d : Stat} (hs : s.pos ∧ s.hits ≤ s.gets) (hd : d.pos ∧ d.hits ≤ d.gets) : (s.add d).pos ∧ (s.add d).hits ≤ (s.add d).gets := by
  simp only [Stat.pos, Stat.add] at *; omega
theorem sumT_pos (t : Nat) (l : List Chg) : (sumT t l).pos ∧ (sumT t l).hits ≤ (sumT t l).gets := by
  have : ∀ (l : List Chg) (s : Stat), (s.pos ∧ s.hits ≤ s.gets) → ((l.foldl (fun s x => s.add (chgT t x)) s).pos ∧ (l.foldl (fun s x => s.add (chgT t x)) s).hits ≤ (l.foldl (fun s x => s.add (chgT t x)) s).gets) := by
    intro l
    induction l with
    | nil => exact fun s h => h
    | cons x l ih => intro s h; rw [List.foldl_cons]; exact ih _ (add_pos h (chgT_pos t x))
  exact this l stat0 (by simp [Stat.pos, stat0])
theorem cmdD_pos (kind : Int) (nk : Nat) (rk : Int) (ri : Nat) : (cmdD kind nk rk ri).pos ∧ (cmdD kind nk rk ri).hits ≤ (cmdD kind nk rk ri).gets := by
  simp only [cmdD, Stat.pos]
  refine ⟨⟨?_, ?_, ?_, ?_, ?_, ?_⟩, ?_⟩ <;> (repeat' split) <;> omega
theorem cmdT_pos (ten : Int) {d : Stat} (t : Nat) (h : d.pos ∧ d.hits ≤ d.gets) : (cmdT ten d t).pos ∧ (cmdT ten d t).hits ≤ (cmdT ten d t).gets := by
  unfold cmdT
  split
  · exact h
  · simp [Stat.pos, stat0]
/-- All tenants, each with its more. -/
def moreL (ts : List Stat) (f : Nat → Stat) : List Stat := ts.mapIdx fun t s => s.addv (f t)
theorem moreL_len (ts : List Stat) (f : Nat → Stat) : (moreL ts f).length = ts.length := by simp [moreL]
theorem moreL_at {ts : List Stat} {f : Nat → Stat} {t : Nat} (h : t < ts.length) (h' : t < (moreL ts f).length) : (moreL ts f)[t] = ts[t].addv (f t) := by simp [moreL]
theorem moreL_congr {ts : List Stat} {f g : Nat → Stat} (h : ∀ t, t < ts.length → f t = g t) : moreL ts f = moreL ts g := by
  apply List.ext_getElem (by simp [moreL])
  intro t h1 h2
  rw [moreL_len] at h1
  rw [moreL_at h1, moreL_at h1, h t h1]
theorem moreL_set {ts : List Stat} {f g : Nat → Stat} {k : Nat} (hk : k < ts.length) (h : ∀ t, t ≠ k → g t = f t) : (moreL ts f).set k (ts[k].addv (g k)) = moreL ts g := by
  apply List.ext_getElem (by simp [moreL])
  intro t h1 h2
  rw [List.length_set, moreL_len] at h1
  rw [List.getElem_set, moreL_at h1]
  by_cases e : k = t
  · subst e; rw [if_pos rfl, moreL_at h1]
  · rw [if_neg e, moreL_at h1, h t (fun h => e h.symm)]
theorem moreL_zero {ts : List Stat} {f : Nat → Stat} (hs : ∀ s ∈ ts, s.may) (h : ∀ t, t < ts.length → f t = stat0) : moreL ts f = ts := by
  apply List.ext_getElem (by simp [moreL])
  intro t h1 h2
  rw [moreL_at h2, h t h2]
  exact addv_zero _ (hs _ (List.getElem_mem h2)).rng
theorem moreL_moreL (ts : List Stat) (f g : Nat → Stat) (hg : ∀ t, (g t).pos) : moreL (moreL ts f) g = moreL ts fun t => (f t).add (g t) := by
  apply List.ext_getElem (by simp [moreL])
  intro t h1 h2
  rw [moreL_len] at h2
  rw [moreL_at (by rw [moreL_len]; exact h2), moreL_at h2, moreL_at h2, addv_addv _ _ _ (hg t)]
theorem moreL_may {ts : List Stat} {f : Nat → Stat} (hs : ∀ s ∈ ts, s.may) (hf : ∀ t, (f t).pos ∧ (f t).hits ≤ (f t).gets) : ∀ s ∈ moreL ts f, s.may := fun s h => by
  obtain ⟨t, ht, rfl⟩ := List.getElem_of_mem h
  rw [moreL_len] at ht
  rw [moreL_at ht]
  exact addv_may _ _ (hs _ (List.getElem_mem ht)) (hf t).1 (hf t).2
/-- One field. -/
def Stat.at (s : Stat) : Nat → Int
  | 0 => s.gets | 1 => s.hits | 2 => s.puts | 3 => s.del | 4 => s.evi | _ => s.ref
def Stat.upd (s : Stat) (j : Nat) (x : Int) : Stat := match j with
  | 0 => { s with gets := x } | 1 => { s with hits := x } | 2 => { s with puts := x } | 3 => { s with del := x } | 4 => { s with evi := x } | _ => { s with ref := x }
theorem upd_cells (s : Stat) (x : Int) : ∀ j, j < 6 → statE.cells (s.upd j x) = (statE.cells s).set j (.int .i64 x)
  | 0, _ => rfl | 1, _ => rfl | 2, _ => rfl | 3, _ => rfl | 4, _ => rfl | 5, _ => rfl
theorem at_cells (s : Stat) : ∀ j, j < 6 → ((statE.cells s).drop j).take 1 = [.int .i64 (s.at j)]
  | 0, _ => rfl | 1, _ => rfl | 2, _ => rfl | 3, _ => rfl | 4, _ => rfl | 5, _ => rfl
def unitS (j : Nat) (n : Int) : Stat := stat0.upd j n
theorem upd_addv (s : Stat) (n : Int) (h : s.rng) : ∀ j, j < 6 → s.upd j (mx (s.at j + n)) = s.addv (unitS j n) := by
  obtain ⟨h1, h2, h3, h4, h5, h6⟩ := h
  obtain ⟨g, h, p, d, e, r⟩ := s
  intro j hj
  have : j = 0 ∨ j = 1 ∨ j = 2 ∨ j = 3 ∨ j = 4 ∨ j = 5 := by omega
  simp only [inC] at *
  rcases this with rfl | rfl | rfl | rfl | rfl | rfl
  · show Stat.mk (mx (g + n)) h p d e r = Stat.mk (mx (g + n)) (mx (h + 0)) (mx (p + 0)) (mx (d + 0)) (mx (e + 0)) (mx (r + 0))
    simp only [Stat.mk.injEq, mx, true_and, and_true]; omega
  · show Stat.mk g (mx (h + n)) p d e r = Stat.mk (mx (g + 0)) (mx (h + n)) (mx (p + 0)) (mx (d + 0)) (mx (e + 0)) (mx (r + 0))
    simp only [Stat.mk.injEq, mx, true_and, and_true]; omega
  · show Stat.mk g h (mx (p + n)) d e r = Stat.mk (mx (g + 0)) (mx (h + 0)) (mx (p + n)) (mx (d + 0)) (mx (e + 0)) (mx (r + 0))
    simp only [Stat.mk.injEq, mx, true_and, and_true]; omega
  · show Stat.mk g h p (mx (d + n)) e r = Stat.mk (mx (g + 0)) (mx (h + 0)) (mx (p + 0)) (mx (d + n)) (mx (e + 0)) (mx (r + 0))
    simp only [Stat.mk.injEq, mx, true_and, and_true]; omega
  · show Stat.mk g h p d (mx (e + n)) r = Stat.mk (mx (g + 0)) (mx (h + 0)) (mx (p + 0)) (mx (d + 0)) (mx (e + n)) (mx (r + 0))
    simp only [Stat.mk.injEq, mx, true_and, and_true]; omega
  · show Stat.mk g h p d e (mx (r + n)) = Stat.mk (mx (g + 0)) (mx (h + 0)) (mx (p + 0)) (mx (d + 0)) (mx (e + 0)) (mx (r + n))
    simp only [Stat.mk.injEq, mx, true_and, and_true]; omega
theorem unitS_pos (j : Nat) (n : Int) (h : 0 ≤ n) : (unitS j n).pos := by
  unfold unitS Stat.upd
  split <;> simp [Stat.pos, stat0, h]
theorem at_in {s : Stat} (h : s.rng) : ∀ j, inC (s.at j) := by
  obtain ⟨h1, h2, h3, h4, h5, h6⟩ := h
  intro j; unfold Stat.at; split <;> assumption
theorem counts_spec (s : Stat) (H : Heap) : WC Try.prog 31 [s.av] H fun r H' => r = (Enc.int .i64).lst s.ns ∧ H' = H := by
  refine WC_val fun K hK => ?_
  unfold Stat.av
  refine WC_of_body hT Try.func31 rfl (by simp [Try.f31]) (by simp [Try.f31]) (wx_sound hT _ ?_)
  simp only [Try.f31]
  repeat' (first | simp only [go_sem, Nat.reduceLT, Nat.reduceEqDiff, Nat.reduceAdd, Nat.reduceMul, Nat.reduceSub, Nat.reduceLeDiff, Int.reduceToNat, Int.reduceNeg, Int.reduceLT, Int.reduceLE, Int.reduceEq, reduceCtorEq, Int.natCast_zero, Int.natCast_one, Int.cast_ofNat_Int, Bool.not_not, false_eq_decide, true_eq_decide, hread0, hreadk, read_cons0, read_consk, astore_h0, astore_hk, hget0, hgetk, hset0, hsetk, hlen, hcat, Nat.add_assoc, Nat.add_zero, Nat.zero_add, List.length_append, and_true, true_and, AV.flat, *, -hK] | with_reducible refine IfB_dec (fun h => ?_) (fun h => ?_) | with_reducible refine Guard_dec (fun h => ?_) (fun h => ?_) | with_reducible refine Guard_ndec (fun h => ?_) (fun h => ?_) | with_reducible refine Guard_not (fun h => ?_) (fun h => ?_) | with_reducible refine IfB_ndec (fun h => ?_) (fun h => ?_) | with_reducible refine IfB_not (fun h => ?_) (fun h => ?_) | with_reducible refine Guard_split (fun h => ?_) (fun h => ?_) | with_reducible refine IfB_split (fun h => ?_) (fun h => ?_))
  refine hK _ _ (Thaw.own (sz := 1) (n := 6) (m := H.length) (cs := [.int .i64 s.gets, .int .i64 s.hits, .int .i64 s.puts, .int .i64 s.del, .int .i64 s.evi, .int .i64 s.ref]) (.inr ⟨H.length + 1, 6, .full, [], rfl, by omega, by simp, rfl, rfl⟩) (fun a ha => by simp only [List.mem_cons, List.not_mem_nil, or_false] at ha; rcases ha with rfl | rfl | rfl | rfl | rfl | rfl <;> rfl) rfl (by decide)) (Keep.app _ _ _)
def outB (n : Int) : Bool := decide (n < 0 ∨ n > 1099511627776)
theorem inF_spec (n : Int) (H : Heap) : WC Try.prog 32 [.int .i64 n] H fun r H' => r = .bool (outB n) ∧ H' = H := by
  refine WC_of_K fun K hK => ?_
  by_cases h : n < 0
  · rw [show outB n = true by unfold outB; exact decide_eq_true (.inl h)] at hK
    refine WC_of_body hT Try.func32 rfl (by simp [Try.f32]) (by simp [Try.f32]) (wx_sound hT _ ?_)
    simp only [Try.f32]
    repeat' (first | simp only [go_sem, Nat.reduceLT, Nat.reduceEqDiff, Nat.reduceAdd, Nat.reduceMul, Nat.reduceSub, Nat.reduceLeDiff, Int.reduceToNat, Int.reduceNeg, Int.reduceLT, Int.reduceLE, Int.reduceEq, reduceCtorEq, Int.natCast_zero, Int.natCast_one, Int.cast_ofNat_Int, Bool.not_not, false_eq_decide, true_eq_decide, hread0, hreadk, read_cons0, read_consk, astore_h0, astore_hk, hget0, hgetk, hset0, hsetk, hlen, hcat, Nat.add_assoc, Nat.add_zero, Nat.zero_add, List.length_append, and_true, true_and, AV.flat, *, -hK] | with_reducible refine IfB_dec (fun h => ?_) (fun h => ?_) | with_reducible refine Guard_dec (fun h => ?_) (fun h => ?_) | with_reducible refine Guard_ndec (fun h => ?_) (fun h => ?_) | with_reducible refine Guard_not (fun h => ?_) (fun h => ?_) | with_reducible refine IfB_ndec (fun h => ?_) (fun h => ?_) | with_reducible refine IfB_not (fun h => ?_) (fun h => ?_) | with_reducible refine Guard_split (fun h => ?_) (fun h => ?_) | with_reducible refine IfB_split (fun h => ?_) (fun h => ?_))
    exact hK _ _ ⟨rfl, rfl⟩
  · rw [show outB n = decide (n > 1099511627776) by unfold outB; simp [h]] at hK
    refine WC_of_body hT Try.func32 rfl (by simp [Try.f32]) (by simp [Try.f32]) (wx_sound hT _ ?_)
    simp only [Try.f32]
    repeat' (first | simp only [go_sem, Nat.reduceLT, Nat.reduceEqDiff, Nat.reduceAdd, Nat.reduceMul, Nat.reduceSub, Nat.reduceLeDiff, Int.reduceToNat, Int.reduceNeg, Int.reduceLT, Int.reduceLE, Int.reduceEq, reduceCtorEq, Int.natCast_zero, Int.natCast_one, Int.cast_ofNat_Int, Bool.not_not, false_eq_decide, true_eq_decide, hread0, hreadk, read_cons0, read_consk, astore_h0, astore_hk, hget0, hgetk, hset0, hsetk, hlen, hcat, Nat.add_assoc, Nat.add_zero, Nat.zero_add, List.length_append, and_true, true_and, AV.flat, *, -hK] | with_reducible refine IfB_dec (fun h => ?_) (fun h => ?_) | with_reducible refine Guard_dec (fun h => ?_) (fun h => ?_) | with_reducible refine Guard_ndec (fun h => ?_) (fun h => ?_) | with_reducible refine Guard_not (fun h => ?_) (fun h => ?_) | with_reducible refine IfB_ndec (fun h => ?_) (fun h => ?_) | with_reducible refine IfB_not (fun h => ?_) (fun h => ?_) | with_reducible refine Guard_split (fun h => ?_) (fun h => ?_) | with_reducible refine IfB_split (fun h => ?_) (fun h => ?_))
    exact hK _ _ ⟨rfl, rfl⟩
theorem iIdxF_spec (xs : List Int) (g : FuncId) (cs : List AV) (p : Int → Bool) (hn : xs.length ≤ 140737488355328) (H : Heap) (hp : ∀ x ∈ xs, WC Try.prog g (AV.int .i64 x :: cs) H fun r H' => r = .bool (p x) ∧ H' = H) :
    WC Try.prog 42 [((Enc.int .i64)).lst xs, .fn g [] cs] H fun r H' => r = .int .i64 (idxI (xs.findIdx? p)) ∧ H' = H := by
  refine WC_of_K fun K hK => ?_
  refine WC_of_body hT Try.func42 rfl (by simp [Try.f42]) (by simp [Try.f42]) (wx_sound hT _ ?_)
  simp only [Try.f42]
  repeat' (first | simp only [go_sem, Nat.reduceLT, Nat.reduceEqDiff, Nat.reduceAdd, Nat.reduceMul, Nat.reduceSub, Nat.reduceLeDiff, Int.reduceToNat, Int.reduceNeg, Int.reduceLT, Int.reduceLE, Int.reduceEq, reduceCtorEq, Int.natCast_zero, Int.natCast_one, Int.cast_ofNat_Int, Bool.not_not, false_eq_decide, true_eq_decide, hread0, hreadk, read_cons0, read_consk, astore_h0, astore_hk, hget0, hgetk, hset0, hsetk, hlen, hcat, Nat.add_assoc, Nat.add_zero, Nat.zero_add, List.length_append, and_true, true_and, AV.flat, *, -hK] | with_reducible refine IfB_dec (fun h => ?_) (fun h => ?_) | with_reducible refine Guard_dec (fun h => ?_) (fun h => ?_) | with_reducible refine Guard_ndec (fun h => ?_) (fun h => ?_) | with_reducible refine Guard_not (fun h => ?_) (fun h => ?_) | with_reducible refine IfB_ndec (fun h => ?_) (fun h => ?_) | with_reducible refine IfB_not (fun h => ?_) (fun h => ?_) | with_reducible refine Guard_split (fun h => ?_) (fun h => ?_) | with_reducible refine IfB_split (fun h => ?_) (fun h => ?_))
  refine WX_loopS [0, 1, 7] (fun k fr' H' => ∃ i : Nat, k = xs.length - i ∧ i ≤ xs.length ∧ fr'.get 8 = .int .i64 i ∧ H' = H ∧ ∀ j (hj : j < i) (hx : j < xs.length), p xs[j] = false) xs.length ⟨0, rfl, by omega, by simp only [go_sem, Nat.reduceLT, Nat.reduceEqDiff, Nat.reduceAdd, Nat.reduceMul, Nat.reduceSub, Nat.reduceLeDiff, Int.reduceToNat, Int.reduceNeg, Int.reduceLT, Int.reduceLE, Int.reduceEq, reduceCtorEq]; rfl, rfl, fun j hj => by omega⟩ ?_
  rintro k fr' H' A R hA hs hg hR ⟨i, rfl, hi, f8, rfl, hno⟩
  have s0 := hg 0 (by decide)
  have s1 := hg 1 (by decide)
  have s7 := hg 7 (by decide)
  simp only [Fr.get_put, Fr.get_init, List.getD_cons_zero, List.getD_cons_succ, Nat.reduceEqDiff, if_true, if_false] at s0 s1 s7
  refine wx_sound hT _ ?_
  repeat' (first | simp only [go_sem, Nat.reduceLT, Nat.reduceEqDiff, Nat.reduceAdd, Nat.reduceMul, Nat.reduceSub, Nat.reduceLeDiff, Int.reduceToNat, Int.reduceNeg, Int.reduceLT, Int.reduceLE, Int.reduceEq, reduceCtorEq, Int.natCast_zero, Int.natCast_one, Int.cast_ofNat_Int, Bool.not_not, false_eq_decide, true_eq_decide, hread0, hreadk, read_cons0, read_consk, astore_h0, astore_hk, hget0, hgetk, hset0, hsetk, hlen, hcat, Nat.add_assoc, Nat.add_zero, Nat.zero_add, List.length_append, and_true, true_and, AV.flat, *, -hK] | with_reducible refine IfB_dec (fun h => ?_) (fun h => ?_) | with_reducible refine Guard_dec (fun h => ?_) (fun h => ?_) | with_reducible refine Guard_ndec (fun h => ?_) (fun h => ?_) | with_reducible refine Guard_not (fun h => ?_) (fun h => ?_) | with_reducible refine IfB_ndec (fun h => ?_) (fun h => ?_) | with_reducible refine IfB_not (fun h => ?_) (fun h => ?_) | with_reducible refine Guard_split (fun h => ?_) (fun h => ?_) | with_reducible refine IfB_split (fun h => ?_) (fun h => ?_))
  case refine_1 =>
    have hlt : i < xs.length := by omega
    have e1 := at_enc (E := (Enc.int .i64)) (k := .i64) se77 hlt rfl
    have e3 := inc_id hlt hn
    repeat' (first | simp only [go_sem, Nat.reduceLT, Nat.reduceEqDiff, Nat.reduceAdd, Nat.reduceMul, Nat.reduceSub, Nat.reduceLeDiff, Int.reduceToNat, Int.reduceNeg, Int.reduceLT, Int.reduceLE, Int.reduceEq, reduceCtorEq, Int.natCast_zero, Int.natCast_one, Int.cast_ofNat_Int, Bool.not_not, false_eq_decide, true_eq_decide, hread0, hreadk, read_cons0, read_consk, astore_h0, astore_hk, hget0, hgetk, hset0, hsetk, hlen, hcat, Nat.add_assoc, Nat.add_zero, Nat.zero_add, List.length_append, and_true, true_and, AV.flat, int_cells, *, -hK] | refine WC.call (hp _ (List.getElem_mem hlt)) ?_ | with_reducible refine IfB_dec (fun h => ?_) (fun h => ?_) | with_reducible refine Guard_dec (fun h => ?_) (fun h => ?_) | with_reducible refine Guard_ndec (fun h => ?_) (fun h => ?_) | with_reducible refine Guard_not (fun h => ?_) (fun h => ?_) | with_reducible refine IfB_ndec (fun h => ?_) (fun h => ?_) | with_reducible refine IfB_not (fun h => ?_) (fun h => ?_) | with_reducible refine Guard_split (fun h => ?_) (fun h => ?_) | with_reducible refine IfB_split (fun h => ?_) (fun h => ?_))
    case refine_1 =>
      refine hK _ _ ⟨?_, rfl⟩
      have : xs.findIdx? p = some i := by
        rw [List.findIdx?_eq_some_iff_getElem]
        exact ⟨hlt, h, fun j hj => by rw [hno j hj (by omega)]; simp⟩
      rw [this]; rfl
    case refine_2 =>
      refine hR _ _ (by (repeat (first | exact hs | refine hA _ _ _ (by decide) ?_))) (xs.length - (i + 1)) (by omega) ⟨i + 1, rfl, by omega, by simp only [go_sem, Nat.reduceLT, Nat.reduceEqDiff, Nat.reduceAdd, Nat.reduceMul, Nat.reduceSub, Nat.reduceLeDiff, Int.reduceToNat, Int.reduceNeg, Int.reduceLT, Int.reduceLE, Int.reduceEq, reduceCtorEq], rfl, fun j hj hx => ?_⟩
      · by_cases e : j = i
        · subst e; exact h
        · exact hno j (by omega) hx
  case refine_2 =>
    repeat' (first | simp only [go_sem, Nat.reduceLT, Nat.reduceEqDiff, Nat.reduceAdd, Nat.reduceMul, Nat.reduceSub, Nat.reduceLeDiff, Int.reduceToNat, Int.reduceNeg, Int.reduceLT, Int.reduceLE, Int.reduceEq, reduceCtorEq, Int.natCast_zero, Int.natCast_one, Int.cast_ofNat_Int, Bool.not_not, false_eq_decide, true_eq_decide, hread0, hreadk, read_cons0, read_consk, astore_h0, astore_hk, hget0, hgetk, hset0, hsetk, hlen, hcat, Nat.add_assoc, Nat.add_zero, Nat.zero_add, List.length_append, and_true, true_and, AV.flat, *, -hK] | with_reducible refine IfB_dec (fun h => ?_) (fun h => ?_) | with_reducible refine Guard_dec (fun h => ?_) (fun h => ?_) | with_reducible refine Guard_ndec (fun h => ?_) (fun h => ?_) | with_reducible refine Guard_not (fun h => ?_) (fun h => ?_) | with_reducible refine IfB_ndec (fun h => ?_) (fun h => ?_) | with_reducible refine IfB_not (fun h => ?_) (fun h => ?_) | with_reducible refine Guard_split (fun h => ?_) (fun h => ?_) | with_reducible refine IfB_split (fun h => ?_) (fun h => ?_))
    refine hK _ _ ⟨?_, rfl⟩
    have : xs.findIdx? p = none := by
      rw [List.findIdx?_eq_none_iff]
      intro x hx
      obtain ⟨j, hj, rfl⟩ := List.getElem_of_mem hx
      exact hno j (by omega) hj
    rw [this]; rfl
theorem iHasF_spec (xs : List Int) (g : FuncId) (cs : List AV) (p : Int → Bool) (hn : xs.length ≤ 140737488355328) (H : Heap) (hp : ∀ x ∈ xs, WC Try.prog g (AV.int .i64 x :: cs) H fun r H' => r = .bool (p x) ∧ H' = H) :
    WC Try.prog 30 [((Enc.int .i64)).lst xs, .fn g [] cs] H fun r H' => r = .bool (xs.any p) ∧ H' = H := by
  refine WC_of_K fun K hK => ?_
  refine WC_of_body hT Try.func30 rfl (by simp [Try.f30]) (by simp [Try.f30]) (wx_sound hT _ ?_)
  simp only [Try.f30]
  repeat' (first | simp only [go_sem, Nat.reduceLT, Nat.reduceEqDiff, Nat.reduceAdd, Nat.reduceMul, Nat.reduceSub, Nat.reduceLeDiff, Int.reduceToNat, Int.reduceNeg, Int.reduceLT, Int.reduceLE, Int.reduceEq, reduceCtorEq, Int.natCast_zero, Int.natCast_one, Int.cast_ofNat_Int, Bool.not_not, false_eq_decide, true_eq_decide, hread0, hreadk, read_cons0, read_consk, astore_h0, astore_hk, hget0, hgetk, hset0, hsetk, hlen, hcat, Nat.add_assoc, Nat.add_zero, Nat.zero_add, List.length_append, and_true, true_and, AV.flat, *, -hK] | refine WC.call (iIdxF_spec xs g cs p hn _ hp) ?_ | with_reducible refine IfB_dec (fun h => ?_) (fun h => ?_) | with_reducible refine Guard_dec (fun h => ?_) (fun h => ?_) | with_reducible refine Guard_ndec (fun h => ?_) (fun h => ?_) | with_reducible refine Guard_not (fun h => ?_) (fun h => ?_) | with_reducible refine IfB_ndec (fun h => ?_) (fun h => ?_) | with_reducible refine IfB_not (fun h => ?_) (fun h => ?_) | with_reducible refine Guard_split (fun h => ?_) (fun h => ?_) | with_reducible refine IfB_split (fun h => ?_) (fun h => ?_))
  refine hK _ _ ⟨?_, rfl⟩
  congr 1
  cases hf : xs.findIdx? p with
  | none =>
    rw [List.findIdx?_eq_none_iff] at hf
    have : xs.any p = false := by rw [List.any_eq_false]; intro x hx; simp [hf x hx]
    rw [this]; rfl
  | some i =>
    rw [List.findIdx?_eq_some_iff_getElem] at hf
    obtain ⟨hi, hp1, _⟩ := hf
    have : xs.any p = true := by rw [List.any_eq_true]; exact ⟨_, List.getElem_mem hi, hp1⟩
    rw [this]; simp [idxI]
theorem sclone_own (xs : List Stat) (hn : xs.length ≤ 1000000) (H : Heap) : WC Try.prog 41 [(statE).lst xs] H fun r H' => OwnE (statE) H.length H' r xs ∧ Keep none H H' := by
  refine WC_of_K fun K hK => ?_
  cases xs with
  | nil =>
    refine WC_lst0 (pre := []) (post := []) ?_ ?_
    · skip
      refine WC_of_body hT Try.func41 rfl (by simp [Try.f41]) (by simp [Try.f41]) (wx_sound hT _ ?_)
      simp only [Try.f41]
      repeat' (first | simp only [go_sem, Nat.reduceLT, Nat.reduceEqDiff, Nat.reduceAdd, Nat.reduceMul, Nat.reduceSub, Nat.reduceLeDiff, Int.reduceToNat, Int.reduceNeg, Int.reduceLT, Int.reduceLE, Int.reduceEq, reduceCtorEq, Int.natCast_zero, Int.natCast_one, Int.cast_ofNat_Int, Bool.not_not, false_eq_decide, true_eq_decide, hread0, hreadk, read_cons0, read_consk, astore_h0, astore_hk, hget0, hgetk, hset0, hsetk, hlen, hcat, Nat.add_assoc, Nat.add_zero, Nat.zero_add, List.length_append, and_true, true_and, AV.flat, *, -hK] | with_reducible refine IfB_dec (fun h => ?_) (fun h => ?_) | with_reducible refine Guard_dec (fun h => ?_) (fun h => ?_) | with_reducible refine Guard_ndec (fun h => ?_) (fun h => ?_) | with_reducible refine Guard_not (fun h => ?_) (fun h => ?_) | with_reducible refine IfB_ndec (fun h => ?_) (fun h => ?_) | with_reducible refine IfB_not (fun h => ?_) (fun h => ?_) | with_reducible refine Guard_split (fun h => ?_) (fun h => ?_) | with_reducible refine IfB_split (fun h => ?_) (fun h => ?_))
      exact hK _ _ ⟨OwnE.nils _ _ _, Keep.refl _ _⟩
    · skip
      refine WC_of_body hT Try.func41 rfl (by simp [Try.f41]) (by simp [Try.f41]) (wx_sound hT _ ?_)
      simp only [Try.f41]
      simp only [go_sem, Nat.reduceLT, Nat.reduceEqDiff, Nat.reduceAdd, Nat.reduceMul, Nat.reduceSub, Nat.reduceLeDiff, Int.reduceToNat, Int.reduceNeg, Int.reduceLT, Int.reduceLE, Int.reduceEq, reduceCtorEq]
      refine append_enc (E := statE) (xs := []) (ys := []) (m := H.length) (.inr ⟨H.length, 0, .full, [], rfl, Nat.le_refl _, get_last _ _, rfl, rfl⟩) se22 az47 td47 ?_ (by decide) (by simp) (by simp) ?_
      · simp only [asrc, tk22]; rfl
      · intro v' H1 h1 h2 h3
        simp only [go_sem, Nat.reduceLT, Nat.reduceEqDiff, Nat.reduceAdd, Nat.reduceMul, Nat.reduceSub, Nat.reduceLeDiff, Int.reduceToNat, Int.reduceNeg, Int.reduceLT, Int.reduceLE, Int.reduceEq, reduceCtorEq]
        exact hK _ _ ⟨h1, Keep.new (Keep.snoc none H _) h2 (Nat.le_refl _)⟩
  | cons x xs =>
    have hnil : AV.sliceNil ((statE).lst (x :: xs)) = some false := rfl
    have hbin : abin T .eql 22 ((statE).lst (x :: xs)) .nils = some (.bool false) := by simp only [abin, tk22, Enc.lst, AV.sliceNil]; rw [if_pos (by simp)]; rfl
    refine WC_of_body hT Try.func41 rfl (by simp [Try.f41]) (by simp [Try.f41]) (wx_sound hT _ ?_)
    simp only [Try.f41]
    simp only [wx_skip, wx_region, wx_draw, wx_seq, wx_cond, wx_block, wx_exit, wx_ret, wx_loop, WDr_nil, WDr_cons, WDo_none, WDo_some, drK_eq, drU_eq, efK_eq, keepAll_nil, keepAll_true, keepAll_false, RC.ok_pure, RC.ok_load, RC.ok_slice, RC.ok_bytes, RC.ok_blk, mkRC, XThen_normal, XThen_exit, XThen_ret, XBlock_normal, XBlock_ret, XBlock_eq, WOps_nil, WOps_cons, WOp, WCall, wantd, dstOk, apure, aun, anilCheck, aextract, afieldAddr, afieldOff, afield, apart, aindexAddr_sl, aindex, aconv, amakeFunc, alen_str, alen_sl, alen_nils, alen_emp, alen_nul, alen_lst, alen_enc, one_enc, solid_enc, cells_enc, one_nul, solid_nul, cells_nul, one_lst, solid_lst, cells_lst, one_cptr, solid_cptr, cells_cptr, amin, amax, aint, astr, aeq, aeqIn, aeqFs, aeqIn, aeqFs, tk, asize, asliceElem, azero, aalloc, aload, read_last_cons, abytes, abytesStr_sl, Fr.ev, cav, cav1, Fr.get_put, Fr.put_none, Fr.get_init, ares, resOf, atH_eq, opH_eq, undefK_eq, snocK_eq, callK_eq, opsK_eq, codeK_eq, bodyK_ret, bodyK_normal, On_some, On1_some, OnB_some, OnH_some, Guard_true, Guard_false, IfB_true, IfB_false, OnFn_fn, St.own, St.alive, TK.isAgg, one_int, solid_int, cells_int, one_bool, solid_bool, cells_bool, one_str, solid_str, cells_str, one_nilp, solid_nilp, cells_nilp, one_ptr, solid_ptr, cells_ptr, one_nils, solid_nils, cells_nils, one_emp, solid_emp, cells_emp, one_sl, solid_sl, cells_sl, one_fn, solid_fn, cells_fn, one_nilf, solid_nilf, cells_nilf, solid_agg, cells_agg, sliceNil_nils, sliceNil_sl, sliceNil_emp, ptrNil_nilp, ptrNil_ptr, wr, apartsFill, abuild, aplaces, reps, Nat.reduceLT, Nat.reduceEqDiff, Nat.reduceAdd, Nat.reduceMul, Nat.reduceSub, Nat.reduceLeDiff, Int.reduceToNat, Int.reduceNeg, Int.reduceLT, Int.reduceLE, Int.reduceEq, if_true, if_false, true_and, and_true, and_self, reduceCtorEq, decide_true, decide_false, Bool.and_true, Bool.true_and, Bool.and_false, Bool.false_and, Bool.not_true, Bool.not_false, Bool.false_eq_true, beq_self_eq_true, cond_true, cond_false, Option.map_some, Option.map_none, Option.bind_some, Option.bind_none, List.map_cons, List.map_nil, List.all_cons, List.all_nil, List.set_cons_zero, List.set_cons_succ, List.length_cons, List.length_nil, List.getElem?_cons_zero, List.getElem?_cons_succ, List.getD_cons_zero, List.getD_cons_succ, List.drop_zero, List.drop_succ_cons, List.take_succ_cons, List.take_zero, List.replicate_succ, List.replicate_zero, List.flatten_cons, List.flatten_nil, List.append_nil, List.nil_append, List.cons_append, Nat.le_refl, ne_eq, not_true_eq_false, not_false_eq_true, td3, td22, td46, td47, hbin]
    refine append_enc (E := statE) (xs := []) (ys := x :: xs) (m := H.length) (.inr ⟨H.length, 0, .full, [], rfl, Nat.le_refl _, get_last _ _, rfl, rfl⟩) se22 az47 td47 (src_enc tk22) (by decide) ?_ (by simp) ?_
    · show ([].length + (x :: xs).length) * 294 ≤ _; simp only [List.length_nil, Nat.zero_add]; omega
    · intro v' H1 h1 h2 h3
      simp only [go_sem, Nat.reduceLT, Nat.reduceEqDiff, Nat.reduceAdd, Nat.reduceMul, Nat.reduceSub, Nat.reduceLeDiff, Int.reduceToNat, Int.reduceNeg, Int.reduceLT, Int.reduceLE, Int.reduceEq, reduceCtorEq]
      exact hK _ _ ⟨h1, Keep.new (Keep.snoc none H _) h2 (Nat.le_refl _)⟩
theorem out_may (s : Stat) : s.may ↔ s.hits ≤ s.gets ∧ s.ns.any outB = false := by
  simp only [Stat.may, Stat.ns, List.any_cons, List.any_nil, Bool.or_false, Bool.or_eq_false_iff, outB, decide_eq_false_iff_not, inC]
  omega
theorem admE_bad {a : Adm} (h : ¬ a.may) : admE a = 8 := by unfold admE; rw [if_neg h]
theorem admE_ok {a : Adm} (h : a.may) : admE a = 0 := by unfold admE; rw [if_pos h]
theorem admCheck_spec (a : Adm) (hn : a.ts.length ≤ 140737488355328) (H : Heap) : WC Try.prog 11 [a.av] H fun r H' => r = .int .i64 (admE a) ∧ H' = H := by
  refine WC_val fun K hK => ?_
  by_cases hl : 1 ≤ a.ts.length ∧ a.ts.length ≤ 4
  rotate_left
  · rw [admE_bad fun h => hl ⟨h.1, h.2.1⟩] at hK
    unfold Adm.av
    by_cases i1 : (a.ts.length : Int) < 1
    · skip
      refine WC_of_body hT Try.func11 rfl (by simp [Try.f11]) (by simp [Try.f11]) (wx_sound hT _ ?_)
      simp only [Try.f11]
      repeat' (first | simp only [go_sem, Nat.reduceLT, Nat.reduceEqDiff, Nat.reduceAdd, Nat.reduceMul, Nat.reduceSub, Nat.reduceLeDiff, Int.reduceToNat, Int.reduceNeg, Int.reduceLT, Int.reduceLE, Int.reduceEq, reduceCtorEq, Int.natCast_zero, Int.natCast_one, Int.cast_ofNat_Int, Bool.not_not, false_eq_decide, true_eq_decide, hread0, hreadk, read_cons0, read_consk, astore_h0, astore_hk, hget0, hgetk, hset0, hsetk, hlen, hcat, Nat.add_assoc, Nat.add_zero, Nat.zero_add, List.length_append, and_true, true_and, AV.flat, *, -hK, -hl] | with_reducible refine IfB_dec (fun h => ?_) (fun h => ?_) | with_reducible refine Guard_dec (fun h => ?_) (fun h => ?_) | with_reducible refine Guard_ndec (fun h => ?_) (fun h => ?_) | with_reducible refine Guard_not (fun h => ?_) (fun h => ?_) | with_reducible refine IfB_ndec (fun h => ?_) (fun h => ?_) | with_reducible refine IfB_not (fun h => ?_) (fun h => ?_) | with_reducible refine Guard_split (fun h => ?_) (fun h => ?_) | with_reducible refine IfB_split (fun h => ?_) (fun h => ?_))
      exact hK _ _ (.int _ _) (Keep.app _ _ _)
    · have i2 : (a.ts.length : Int) > 4 := by omega
      refine WC_of_body hT Try.func11 rfl (by simp [Try.f11]) (by simp [Try.f11]) (wx_sound hT _ ?_)
      simp only [Try.f11]
      repeat' (first | simp only [go_sem, Nat.reduceLT, Nat.reduceEqDiff, Nat.reduceAdd, Nat.reduceMul, Nat.reduceSub, Nat.reduceLeDiff, Int.reduceToNat, Int.reduceNeg, Int.reduceLT, Int.reduceLE, Int.reduceEq, reduceCtorEq, Int.natCast_zero, Int.natCast_one, Int.cast_ofNat_Int, Bool.not_not, false_eq_decide, true_eq_decide, hread0, hreadk, read_cons0, read_consk, astore_h0, astore_hk, hget0, hgetk, hset0, hsetk, hlen, hcat, Nat.add_assoc, Nat.add_zero, Nat.zero_add, List.length_append, and_true, true_and, AV.flat, *, -hK, -hl] | with_reducible refine IfB_dec (fun h => ?_) (fun h => ?_) | with_reducible refine Guard_dec (fun h => ?_) (fun h => ?_) | with_reducible refine Guard_ndec (fun h => ?_) (fun h => ?_) | with_reducible refine Guard_not (fun h => ?_) (fun h => ?_) | with_reducible refine IfB_ndec (fun h => ?_) (fun h => ?_) | with_reducible refine IfB_not (fun h => ?_) (fun h => ?_) | with_reducible refine Guard_split (fun h => ?_) (fun h => ?_) | with_reducible refine IfB_split (fun h => ?_) (fun h => ?_))
      exact hK _ _ (.int _ _) (Keep.app _ _ _)
  have i1 : ¬ (a.ts.length : Int) < 1 := by omega
  have i2 : ¬ (a.ts.length : Int) > 4 := by omega
  unfold Adm.av
  refine WC_of_body hT Try.func11 rfl (by simp [Try.f11]) (by simp [Try.f11]) (wx_sound hT _ ?_)
  simp only [Try.f11]
  repeat' (first | simp only [go_sem, Nat.reduceLT, Nat.reduceEqDiff, Nat.reduceAdd, Nat.reduceMul, Nat.reduceSub, Nat.reduceLeDiff, Int.reduceToNat, Int.reduceNeg, Int.reduceLT, Int.reduceLE, Int.reduceEq, reduceCtorEq, Int.natCast_zero, Int.natCast_one, Int.cast_ofNat_Int, Bool.not_not, false_eq_decide, true_eq_decide, hread0, hreadk, read_cons0, read_consk, astore_h0, astore_hk, hget0, hgetk, hset0, hsetk, hlen, hcat, Nat.add_assoc, Nat.add_zero, Nat.zero_add, List.length_append, and_true, true_and, AV.flat, *, -hK, -hl] | with_reducible refine IfB_dec (fun h => ?_) (fun h => ?_) | with_reducible refine Guard_dec (fun h => ?_) (fun h => ?_) | with_reducible refine Guard_ndec (fun h => ?_) (fun h => ?_) | with_reducible refine Guard_not (fun h => ?_) (fun h => ?_) | with_reducible refine IfB_ndec (fun h => ?_) (fun h => ?_) | with_reducible refine IfB_not (fun h => ?_) (fun h => ?_) | with_reducible refine Guard_split (fun h => ?_) (fun h => ?_) | with_reducible refine IfB_split (fun h => ?_) (fun h => ?_))
  refine WX_loopS [16, 17] (fun k fr' H' => ∃ i : Nat, k = a.ts.length - i ∧ i ≤ a.ts.length ∧ fr'.get 18 = .int .i64 i ∧ Keep none H H' ∧ ∀ q (hq : q < i) (hx : q < a.ts.length), a.ts[q].may) a.ts.length ⟨0, rfl, by omega, by simp only [go_sem, Nat.reduceLT, Nat.reduceEqDiff, Nat.reduceAdd, Nat.reduceMul, Nat.reduceSub, Nat.reduceLeDiff, Int.reduceToNat, Int.reduceNeg, Int.reduceLT, Int.reduceLE, Int.reduceEq, reduceCtorEq]; rfl, Keep.app _ _ _, fun q hq => by omega⟩ ?_
  rintro k fr' H1 A R hA hs hg hR ⟨i, rfl, hi, f18, kk, hall⟩
  have s16 := hg 16 (by decide)
  have s17 := hg 17 (by decide)
  simp only [Fr.get_put, Fr.get_init, List.getD_cons_zero, List.getD_cons_succ, Nat.reduceEqDiff, if_true, if_false] at s16 s17
  refine wx_sound hT _ ?_
  by_cases hlt : i < a.ts.length
  · have i3 : (i : Int) < a.ts.length := by omega
    have e1 := at_enc (E := statE) (T := T) (k := .i64) se22 hlt rfl
    have e3 := inc_id hlt hn
    have hm := out_may a.ts[i]
    by_cases c1 : a.ts[i].hits > a.ts[i].gets
    · rw [admE_bad fun h => absurd (h.2.2 _ (List.getElem_mem hlt)).1 (by omega)] at hK
      repeat' (first | simp only [go_sem, Nat.reduceLT, Nat.reduceEqDiff, Nat.reduceAdd, Nat.reduceMul, Nat.reduceSub, Nat.reduceLeDiff, Int.reduceToNat, Int.reduceNeg, Int.reduceLT, Int.reduceLE, Int.reduceEq, reduceCtorEq, Int.natCast_zero, Int.natCast_one, Int.cast_ofNat_Int, Bool.not_not, false_eq_decide, true_eq_decide, hread0, hreadk, read_cons0, read_consk, astore_h0, astore_hk, hget0, hgetk, hset0, hsetk, hlen, hcat, Nat.add_assoc, Nat.add_zero, Nat.zero_add, List.length_append, and_true, true_and, AV.flat, statE_cells, *, -hK, -hl, -hall, -hm, -kk] | with_reducible refine IfB_dec (fun h => ?_) (fun h => ?_) | with_reducible refine Guard_dec (fun h => ?_) (fun h => ?_) | with_reducible refine Guard_ndec (fun h => ?_) (fun h => ?_) | with_reducible refine Guard_not (fun h => ?_) (fun h => ?_) | with_reducible refine IfB_ndec (fun h => ?_) (fun h => ?_) | with_reducible refine IfB_not (fun h => ?_) (fun h => ?_) | with_reducible refine Guard_split (fun h => ?_) (fun h => ?_) | with_reducible refine IfB_split (fun h => ?_) (fun h => ?_))
      exact hK _ _ (.int _ _) (kk.trans (Keep.app _ _ _))
    have cs := fun J => counts_spec a.ts[i] J
    unfold Stat.av at cs
    have hs2 := fun J => iHasF_spec a.ts[i].ns 32 [] outB (by simp [Stat.ns]) J (fun x _ => inF_spec x J)
    cases c2 : a.ts[i].ns.any outB with
    | true =>
      rw [admE_bad fun h => absurd (hm.1 (h.2.2 _ (List.getElem_mem hlt))).2 (by simp [c2])] at hK
      rw [c2] at hs2
      repeat' (first | simp only [go_sem, Nat.reduceLT, Nat.reduceEqDiff, Nat.reduceAdd, Nat.reduceMul, Nat.reduceSub, Nat.reduceLeDiff, Int.reduceToNat, Int.reduceNeg, Int.reduceLT, Int.reduceLE, Int.reduceEq, reduceCtorEq, Int.natCast_zero, Int.natCast_one, Int.cast_ofNat_Int, Bool.not_not, false_eq_decide, true_eq_decide, hread0, hreadk, read_cons0, read_consk, astore_h0, astore_hk, hget0, hgetk, hset0, hsetk, hlen, hcat, Nat.add_assoc, Nat.add_zero, Nat.zero_add, List.length_append, and_true, true_and, AV.flat, statE_cells, *, -hK, -hl, -hall, -hm, -kk, -cs, -hs2, -c2] | refine WC.call (cs _) ?_ | refine WC.call (hs2 _) ?_ | with_reducible refine IfB_dec (fun h => ?_) (fun h => ?_) | with_reducible refine Guard_dec (fun h => ?_) (fun h => ?_) | with_reducible refine Guard_ndec (fun h => ?_) (fun h => ?_) | with_reducible refine Guard_not (fun h => ?_) (fun h => ?_) | with_reducible refine IfB_ndec (fun h => ?_) (fun h => ?_) | with_reducible refine IfB_not (fun h => ?_) (fun h => ?_) | with_reducible refine Guard_split (fun h => ?_) (fun h => ?_) | with_reducible refine IfB_split (fun h => ?_) (fun h => ?_))
      exact hK _ _ (.int _ _) (kk.trans (Keep.app _ _ _))
    | false =>
      have hmi := hm.2 ⟨by omega, c2⟩
      rw [c2] at hs2
      have back : ∀ fr2 J, A fr2 → fr2.get 18 = .int .i64 ((i + 1 : Nat) : Int) → Keep none H J → R fr2 J := fun fr2 J ha g1 g2 => hR fr2 J ha (a.ts.length - (i + 1)) (by omega) ⟨i + 1, rfl, by omega, g1, g2, fun q hq hx => (Classical.em (q = i)).elim (fun e => by subst e; exact hmi) (fun e => hall q (by omega) hx)⟩
      clear hR
      repeat' (first | simp only [go_sem, Nat.reduceLT, Nat.reduceEqDiff, Nat.reduceAdd, Nat.reduceMul, Nat.reduceSub, Nat.reduceLeDiff, Int.reduceToNat, Int.reduceNeg, Int.reduceLT, Int.reduceLE, Int.reduceEq, reduceCtorEq, Int.natCast_zero, Int.natCast_one, Int.cast_ofNat_Int, Bool.not_not, false_eq_decide, true_eq_decide, hread0, hreadk, read_cons0, read_consk, astore_h0, astore_hk, hget0, hgetk, hset0, hsetk, hlen, hcat, Nat.add_assoc, Nat.add_zero, Nat.zero_add, List.length_append, and_true, true_and, AV.flat, statE_cells, *, -hK, -hl, -hall, -hm, -kk, -cs, -hs2, -c2, -back, -hmi] | refine WC.call (cs _) ?_ | refine WC.call (hs2 _) ?_ | with_reducible refine IfB_dec (fun h => ?_) (fun h => ?_) | with_reducible refine Guard_dec (fun h => ?_) (fun h => ?_) | with_reducible refine Guard_ndec (fun h => ?_) (fun h => ?_) | with_reducible refine Guard_not (fun h => ?_) (fun h => ?_) | with_reducible refine IfB_ndec (fun h => ?_) (fun h => ?_) | with_reducible refine IfB_not (fun h => ?_) (fun h => ?_) | with_reducible refine Guard_split (fun h => ?_) (fun h => ?_) | with_reducible refine IfB_split (fun h => ?_) (fun h => ?_))
      exact back _ _ (by (repeat (first | exact hs | refine hA _ _ _ (by decide) ?_))) (by simp only [go_sem, Nat.reduceLT, Nat.reduceEqDiff, Nat.reduceAdd, Nat.reduceMul, Nat.reduceSub, Nat.reduceLeDiff, Int.reduceToNat, Int.reduceNeg, Int.reduceLT, Int.reduceLE, Int.reduceEq, reduceCtorEq]) (kk.trans (Keep.app _ _ _))
  have i3 : ¬ (i : Int) < a.ts.length := by omega
  rw [admE_ok ⟨hl.1, hl.2, fun s hs => by obtain ⟨q, hq, rfl⟩ := List.getElem_of_mem hs; exact hall q (by omega) hq⟩] at hK
  repeat' (first | simp only [go_sem, Nat.reduceLT, Nat.reduceEqDiff, Nat.reduceAdd, Nat.reduceMul, Nat.reduceSub, Nat.reduceLeDiff, Int.reduceToNat, Int.reduceNeg, Int.reduceLT, Int.reduceLE, Int.reduceEq, reduceCtorEq, Int.natCast_zero, Int.natCast_one, Int.cast_ofNat_Int, Bool.not_not, false_eq_decide, true_eq_decide, hread0, hreadk, read_cons0, read_consk, astore_h0, astore_hk, hget0, hgetk, hset0, hsetk, hlen, hcat, Nat.add_assoc, Nat.add_zero, Nat.zero_add, List.length_append, and_true, true_and, AV.flat, *, -hK, -hl, -hall, -kk] | with_reducible refine IfB_dec (fun h => ?_) (fun h => ?_) | with_reducible refine Guard_dec (fun h => ?_) (fun h => ?_) | with_reducible refine Guard_ndec (fun h => ?_) (fun h => ?_) | with_reducible refine Guard_not (fun h => ?_) (fun h => ?_) | with_reducible refine IfB_ndec (fun h => ?_) (fun h => ?_) | with_reducible refine IfB_not (fun h => ?_) (fun h => ?_) | with_reducible refine Guard_split (fun h => ?_) (fun h => ?_) | with_reducible refine IfB_split (fun h => ?_) (fun h => ?_))
  exact hK _ _ (.int _ _) kk
theorem Keep.of_set {H G : Heap} {p : Nat} {B : Blk} (h : G = List.set H p B) : Keep (some p) H G := by
  subst h
  exact ⟨by simp, fun b hb hp => List.getElem?_set_ne fun e => hp (by rw [e])⟩
theorem twin_own (a : Adm) (hn : a.ts.length ≤ 1000000) (H : Heap) : WC Try.prog 28 [a.av] H fun r H' => (∃ v, r = .agg [v, .bool a.dr] ∧ OwnE statE H.length H' v a.ts) ∧ Keep none H H' := by
  refine WC_of_K fun K hK => ?_
  unfold Adm.av
  refine WC_of_body hT Try.func28 rfl (by simp [Try.f28]) (by simp [Try.f28]) (wx_sound hT _ ?_)
  simp only [Try.f28]
  have cs := fun J => sclone_own a.ts hn J
  repeat' (first | simp only [go_sem, Nat.reduceLT, Nat.reduceEqDiff, Nat.reduceAdd, Nat.reduceMul, Nat.reduceSub, Nat.reduceLeDiff, Int.reduceToNat, Int.reduceNeg, Int.reduceLT, Int.reduceLE, Int.reduceEq, reduceCtorEq, Int.natCast_zero, Int.natCast_one, Int.cast_ofNat_Int, Bool.not_not, false_eq_decide, true_eq_decide, hread0, hreadk, read_cons0, read_consk, astore_h0, astore_hk, hget0, hgetk, hset0, hsetk, hlen, hcat, Nat.add_assoc, Nat.add_zero, Nat.zero_add, List.length_append, and_true, true_and, AV.flat, *, -hK, -cs] | with_reducible refine IfB_dec (fun h => ?_) (fun h => ?_) | with_reducible refine Guard_dec (fun h => ?_) (fun h => ?_) | with_reducible refine Guard_ndec (fun h => ?_) (fun h => ?_) | with_reducible refine Guard_not (fun h => ?_) (fun h => ?_) | with_reducible refine IfB_ndec (fun h => ?_) (fun h => ?_) | with_reducible refine IfB_not (fun h => ?_) (fun h => ?_) | with_reducible refine Guard_split (fun h => ?_) (fun h => ?_) | with_reducible refine IfB_split (fun h => ?_) (fun h => ?_))
  refine (cs _).mono ?_
  rintro v H1 ⟨o, k⟩
  have hv := o.one
  have hb0 := k.get (b := H.length) (B := ⟨[statE.lst a.ts, .bool a.dr], 0, .full⟩) (by rw [hget0]; rfl) (by simp)
  have hb1 := k.get (b := H.length + 1) (B := ⟨[.nils, .bool false], 0, .full⟩) (by rw [hgetk]; rfl) (by simp)
  clear cs
  have hne : ∀ b, v.blk = some b → H.length + 2 ≤ b := fun b hb => by have := o.ge hb; simpa using this
  have hlt1 := k.len
  have hbx : (List.set H1 H.length ⟨[v, .bool a.dr], 0, .full⟩)[H.length + 1]? = some (⟨[.nils, .bool false], 0, .full⟩ : Blk) := by rw [List.getElem?_set_ne (by omega)]; exact hb1
  repeat' (first | simp only [go_sem, Nat.reduceLT, Nat.reduceEqDiff, Nat.reduceAdd, Nat.reduceMul, Nat.reduceSub, Nat.reduceLeDiff, Int.reduceToNat, Int.reduceNeg, Int.reduceLT, Int.reduceLE, Int.reduceEq, reduceCtorEq, Int.natCast_zero, Int.natCast_one, Int.cast_ofNat_Int, Bool.not_not, false_eq_decide, true_eq_decide, hread0, hreadk, read_cons0, read_consk, astore_h0, astore_hk, hget0, hgetk, hset0, hsetk, hlen, hcat, Nat.add_assoc, Nat.add_zero, Nat.zero_add, List.length_append, and_true, true_and, AV.flat, hb0, get_app hb0, read_get hb0, read_app hb0, astore_get hb0, astore_app hb0, get_set hb0, get_set_app hb0, read_set hb0, read_set_app hb0, astore_set hb0, astore_set_app hb0, List.set_set, hget0s, hgetks, hread0s, hreadks, List.length_set, hbx, get_app hbx, read_get hbx, read_app hbx, astore_get hbx, astore_app hbx, get_set hbx, get_set_app hbx, read_set hbx, read_set_app hbx, astore_set hbx, astore_set_app hbx, List.set_set, hget0s, hgetks, hread0s, hreadks, List.length_set, hv, one_solid hv, one_cells hv, *, -hK, -o, -k, -hne] | with_reducible refine IfB_dec (fun h => ?_) (fun h => ?_) | with_reducible refine Guard_dec (fun h => ?_) (fun h => ?_) | with_reducible refine Guard_ndec (fun h => ?_) (fun h => ?_) | with_reducible refine Guard_not (fun h => ?_) (fun h => ?_) | with_reducible refine IfB_ndec (fun h => ?_) (fun h => ?_) | with_reducible refine IfB_not (fun h => ?_) (fun h => ?_) | with_reducible refine Guard_split (fun h => ?_) (fun h => ?_) | with_reducible refine IfB_split (fun h => ?_) (fun h => ?_))
  refine hK _ _ ⟨⟨v, rfl, ?_⟩, ?_⟩
  · exact OwnE.keep (OwnE.keep (Own.mono o (by simp)) (Keep.of_set rfl) (fun b hb e => by cases hb; have := hne _ e; omega)) (Keep.of_set rfl) (fun b hb e => by cases hb; have := hne _ e; omega)
  · refine ⟨by simp only [List.length_set]; simp at hlt1; omega, fun b hb _ => ?_⟩
    rw [List.getElem?_set_ne (by omega), List.getElem?_set_ne (by omega), k.at_ b (by simp; omega) (by simp), List.getElem?_append_left hb]
theorem up_spec {m : Nat} {H : Heap} {v : AV} {ts : List Stat} {i : Nat} (o : OwnE statE m H v ts) (hi : i < ts.length) (j : Nat) (hj : j < 6) (hr : ts[i].rng) (n : Nat) (hn : n ≤ 140737488355328) :
    ∃ b p, aindexAddr T 22 v (.int .i64 i) = some (.ptr b p) ∧ H.read b p 6 = some (statE.cells ts[i]) ∧ v.blk = some b ∧ WC Try.prog 29 [.ptr b (p + j), .int .i64 n] H fun r H' => r = .tup [] ∧ OwnE statE m H' v (ts.set i (ts[i].addv (unitS j n))) ∧ Keep v.blk H H' := by
  have hat := at_in hr j
  unfold inC at hat
  have hup := upd_addv ts[i] n hr j hj
  unfold mx at hup
  obtain ⟨b, p, H2, e1, e2, e3, o2, k2, e4⟩ := o.setF (E := statE) (by decide) se22 hi (k := .i64) rfl (j := j) hj (x := ts[i].addv (unitS j n)) (c := .int .i64 (min (ts[i].at j + n) 1099511627776)) (by rw [← hup, upd_cells _ _ _ hj]) (te := 3) (by simp only [asize, td3, Option.map_some]) rfl rfl
  refine ⟨b, p, e1, e2, e4, ?_⟩
  have e5 := read_sub e2 j 1 (by show j + 1 ≤ 6; omega)
  rw [at_cells _ _ hj] at e5
  have w1 : IntKind.i64.wrap (ts[i].at j + n) = ts[i].at j + n := by rw [IntKind.wrap_i64]; omega
  have mn : (if (1099511627776 : Int) < ts[i].at j + n then (1099511627776 : Int) else ts[i].at j + n) = min (ts[i].at j + n) 1099511627776 := by split <;> omega
  refine WC_of_K fun K hK => ?_
  clear hup
  refine WC_of_body hT Try.func29 rfl (by simp [Try.f29]) (by simp [Try.f29]) (wx_sound hT _ ?_)
  simp only [Try.f29]
  repeat' (first | simp only [go_sem, Nat.reduceLT, Nat.reduceEqDiff, Nat.reduceAdd, Nat.reduceMul, Nat.reduceSub, Nat.reduceLeDiff, Int.reduceToNat, Int.reduceNeg, Int.reduceLT, Int.reduceLE, Int.reduceEq, reduceCtorEq, Int.natCast_zero, Int.natCast_one, Int.cast_ofNat_Int, Bool.not_not, false_eq_decide, true_eq_decide, hread0, hreadk, read_cons0, read_consk, astore_h0, astore_hk, hget0, hgetk, hset0, hsetk, hlen, hcat, Nat.add_assoc, Nat.add_zero, Nat.zero_add, List.length_append, and_true, true_and, AV.flat, *, -hK, -hat] | with_reducible refine IfB_dec (fun h => ?_) (fun h => ?_) | with_reducible refine Guard_dec (fun h => ?_) (fun h => ?_) | with_reducible refine Guard_ndec (fun h => ?_) (fun h => ?_) | with_reducible refine Guard_not (fun h => ?_) (fun h => ?_) | with_reducible refine IfB_ndec (fun h => ?_) (fun h => ?_) | with_reducible refine IfB_not (fun h => ?_) (fun h => ?_) | with_reducible refine Guard_split (fun h => ?_) (fun h => ?_) | with_reducible refine IfB_split (fun h => ?_) (fun h => ?_))
  exact hK _ _ ⟨rfl, o2, by rw [e4]; exact k2⟩
end Go.Proofs.Ytinejbofnjndnaa
