import Derived.Test.YtccfhighlpfdmaaTrkZ
set_option linter.unusedSimpArgs false
set_option linter.unusedVariables false
set_option maxRecDepth 100000
set_option maxHeartbeats 4000000
namespace Go.Proofs.Ytccfhighlpfdmaa
open Go Go.Proofs Go.Proofs.PI
theorem chgs_spec (l : List Chg) (hl : l.length ≤ 140737488355328) (ho : ∀ c ∈ l, c.Ok) (H : Heap) : WC Try.prog 40 [chgE.lst l] H fun r H' => r = .tup [Enc.u8.lst (changesL l).1, .int .i64 (changesL l).2] ∧ H' = H :=
  WC_val fun K hK => (changes_own l hl ho H).mono fun r H' ⟨⟨b, e, o⟩, k⟩ => hK r H' (by subst e; exact Thaw.tup_row ⟨Thaw.ob o, .int _ _, trivial⟩) k
theorem dropT_small {c : Chg} {t : Tk} {n : Nat} (h : t.ns.length ≤ n) : (dropT c t).ns.length ≤ n := Nat.le_trans (List.length_filter_le _ _) h
theorem runS_small (n : Nat) (cs : List Chg) : ∀ s : List Tk × List Pu, (∀ t ∈ s.1, t.ns.length ≤ n) → ∀ t ∈ (runS s cs).1, t.ns.length ≤ n := by
  induction cs with
  | nil => exact fun s h => h
  | cons c cs ih =>
    intro s h
    refine ih (stepT c s.1, s.2 ++ stepP c s.1 s.1.length) fun t ht => ?_
    obtain ⟨u, hu, rfl⟩ := List.mem_map.1 ht
    exact dropT_small (h u hu)
theorem runS_plen {l : List Tk} (h : trMay l) (cs : List Chg) : (runS (l, []) cs).2.length + nsum (runS (l, []) cs).1 ≤ 128 := by
  have := runS_sum cs (l, [])
  have h2 := nsum_may h
  simp only [List.length_nil] at this
  omega
def TkU (L p : Nat) (ps : List (AV × AV)) : Prop := p < L ∧ ∀ (i : Nat) (x : AV × AV) (b : Nat), ps[i]? = some x → x.2.blk = some b → b < L
theorem TkO.lts {m p k : Nat} {H : Heap} {ps : List (AV × AV)} {l : List Tk} (o : TkO m H p k ps l) : TkU H.length p ps := by
  refine ⟨o.lt, fun j z b hz hzb => ?_⟩
  have hj : j < l.length := by rw [← o.len]; exact (List.getElem?_eq_some_iff.1 hz).1
  obtain ⟨_, g2, g3, _⟩ := o.el j z l[j] hz (List.getElem?_eq_getElem hj)
  by_cases hjk : j < k
  · exact (g3 hjk).lt hzb
  · rw [g2 (by omega)] at hzb; simp [Enc.lst, AV.blk] at hzb
theorem TkU.set {L p : Nat} {ps : List (AV × AV)} (u : TkU L p ps) {i : Nat} {x y : AV × AV} (hx : ps[i]? = some x) (h : y.2.blk = x.2.blk) : TkU L p (ps.set i y) := by
  refine ⟨u.1, fun j z b hz hzb => ?_⟩
  by_cases e : i = j
  · subst e
    rw [List.getElem?_set_self (List.getElem?_eq_some_iff.1 hx).1] at hz
    simp only [Option.some.injEq] at hz
    subst hz
    exact u.2 i x b hx (by rw [← h]; exact hzb)
  · rw [List.getElem?_set_ne e] at hz
    exact u.2 j z b hz hzb
theorem TkO.lowU {m p k L : Nat} {H G : Heap} {ps : List (AV × AV)} {l : List Tk} (o : TkO m H p k ps l) (u : TkU L p ps) (h : ∀ b, m ≤ b → b < L → G[b]? = H[b]?) : TkO m G p k ps l := by
  refine ⟨o.len, o.ge, ?_, fun i x t hx ht => ?_, o.dis⟩
  · obtain ⟨st, rest, h1, h2⟩ := o.blk
    exact ⟨st, rest, by rw [h p o.ge u.1]; exact h1, h2⟩
  · obtain ⟨g1, g2, g3, g4⟩ := o.el i x t hx ht
    refine ⟨g1, g2, fun hi => ?_, g4⟩
    rcases g3 hi with g3 | ⟨b, n, st, rest, e, q1, q2, q3⟩
    · exact .inl g3
    · exact .inr ⟨b, n, st, rest, e, q1, by rw [h b q1 (u.2 i x b hx (by rw [e]; rfl))]; exact q2, q3⟩
/-- Where Change stands: m low, r its answer's cell, xb the box of the tracks, L above them all. -/
structure ChS (m r xb L q p : Nat) (n : Nat) (H : Heap) (J : Heap) (ps : List (AV × AV)) (l : List Tk) (pv : AV) (P : List Pu) : Prop where
  tk : TkO m J p n ps l
  u : TkU L p ps
  pu : PuS L q J pv P
  bx : J[xb]? = some (⟨[.sl p 0 n none], 0, .full⟩ : Blk)
  br : J[r]? = some (⟨[.nils], 0, .full⟩ : Blk)
  low : xb < L ∧ r < L ∧ H.length ≤ m ∧ r < m ∧ xb ≠ r ∧ p ≠ xb ∧ ∀ (i : Nat) (x : AV × AV), ps[i]? = some x → x.2.blk ≠ some xb
  len : L ≤ J.length
  kp : Keep none H J
theorem ChS.grow {m r xb L q p n : Nat} {H J : Heap} {ps : List (AV × AV)} {l : List Tk} {pv : AV} {P : List Pu} (s : ChS m r xb L q p n H J ps l pv P) (B : Blk) : ChS m r xb L q p n H (J ++ [B]) ps l pv P := by
  have k := Keep.app none J [B]
  exact ⟨s.tk.moved k, s.u, ⟨k.get s.pu.box (by simp), s.pu.own.keep0 k, s.pu.ne, s.pu.ge⟩, k.get s.bx (by simp), k.get s.br (by simp), s.low, by have := s.len; simp; omega, s.kp.trans k⟩
/-- One connection's names are gone through. -/
theorem ChS.step {m r xb L q p n : Nat} {H J J2 : Heap} {ps : List (AV × AV)} {l : List Tk} {pv pw s2 : AV} {P Q : List Pu} (s : ChS m r xb L q p n H J ps l pv P) {i : Nat} {x : AV × AV} {t : Tk} (hx : ps[i]? = some x) (ht : l[i]? = some t) (hi : i < n) (hon : x.1 = .bool t.on) {ns : List Nm}
    (o2 : OwnE nmE m J2 s2 ns) (hb : s2.blk = x.2.blk) (hI : PuI L q x.2.blk J pv J2 pw Q) (rest : List AV) (st : St) (hst : st.own = true) :
    ChS m r xb L q p n H (List.set J2 p ⟨row2 (ps.set i (x.1, s2)) ++ rest, 2, st⟩) (ps.set i (x.1, s2)) (l.set i ⟨t.on, ns⟩) pw Q := by
  have hxp := (s.tk.el i x t hx ht).2.2.2
  have hxm : ∀ b, x.2.blk = some b → m ≤ b := fun b e => ((s.tk.el i x t hx ht).2.2.1 hi).ge e
  have hxL : ∀ b, x.2.blk = some b → b < L := fun b e => s.u.2 i x b hx e
  have hge := s.pu.ge
  have hlo := s.low
  have hlen := s.len
  have hpL := s.u.1
  have hpm := s.tk.ge
  have hsame : ∀ b, b < L → x.2.blk ≠ some b → J2[b]? = J[b]? := fun b h1 h2 => hI.fr b (by omega) (by omega) (fun e => by have := s.pu.own.ge e; omega) h2
  have hset : ∀ b B, b ≠ p → (List.set J2 p B)[b]? = J2[b]? := fun b B h => List.getElem?_set_ne (fun e => h e.symm)
  refine ⟨s.tk.upd (y := (x.1, s2)) (t2 := ⟨t.on, ns⟩) hx ht (.inl ⟨rfl, hi⟩) (fun b hb' => ?_) hon o2 (fun b hyb => ?_) rest st hst, s.u.set hx hb, ?_, ?_, ?_, ⟨hlo.1, hlo.2.1, hlo.2.2.1, hlo.2.2.2.1, hlo.2.2.2.2.1, hlo.2.2.2.2.2.1, fun j z hz => ?_⟩, by simp; exact Nat.le_trans hlen hI.len, ?_⟩
  · rcases hb' with rfl | ⟨j, z, hne, hz, hzb⟩
    · exact hsame _ hpL hxp
    · exact hsame _ (s.u.2 j z b hz hzb) (fun e => s.tk.dis i j x z b (fun e => hne e.symm) hx hz e hzb)
  · rw [show (x.1, s2).2.blk = x.2.blk from hb] at hyb
    exact ⟨fun e => hxp (by rw [hyb, e]), fun j z hne hz => s.tk.dis i j x z b (fun e => hne e.symm) hx hz hyb⟩
  · exact ⟨by rw [hset _ _ (by omega)]; exact hI.st.box, hI.st.own.keep (Keep.of_set rfl) (fun b hb e => by cases hb; have := hI.st.own.ge e; omega), hI.st.ne, hge⟩
  · rw [hset _ _ (fun e => hlo.2.2.2.2.2.1 e.symm), hsame _ hlo.1 (hlo.2.2.2.2.2.2 i x hx)]; exact s.bx
  · rw [hset _ _ (by omega), hsame _ hlo.2.1 (fun e => by have := hxm _ e; omega)]; exact s.br
  · by_cases e : i = j
    · subst e
      rw [List.getElem?_set_self (List.getElem?_eq_some_iff.1 hx).1] at hz
      simp only [Option.some.injEq] at hz
      subst hz
      show s2.blk ≠ some xb
      rw [hb]; exact hlo.2.2.2.2.2.2 i x hx
    · rw [List.getElem?_set_ne e] at hz
      exact hlo.2.2.2.2.2.2 j z hz
  · exact ⟨by simp; exact Nat.le_trans s.kp.len hI.len, fun b hb' _ => by
      rw [hset _ _ (by omega), hsame _ (by omega) (fun e => by have := hxm _ e; omega)]; exact s.kp.at_ b hb' (by simp)⟩
end Go.Proofs.Ytccfhighlpfdmaa

