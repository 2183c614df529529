import Derived.Test.YtkmkhiipiflelaaPiL
import Derived.Carry
import Derived.ChangeArms
import Derived.WideShapes
import Derived.SizedLaws
/-! PI, part M: what comes in: readings of arguments as abstract values over blocks that are only read. -/
set_option linter.unusedVariables false
set_option linter.unusedSimpArgs false
namespace Go.Proofs.PI
/-- Old blocks lie where they lay; the same rows are left alone. -/
structure Pres (H : Heap) (φ φ' : Ph) : Prop where
  loc : ∀ b, b < H.length → φ' b = φ b
  fz : φ'.fz = φ.fz
open Go.RowKit

/-- The cells of an input of a type. -/
def Inp (T : TypeId → Option TD) (H : Heap) : Nat → TypeId → List AV → Prop
  | 0, _, _ => False
  | n + 1, t, l => match tk T t with
    | .bool => ∃ b, l = [.bool b]
    | .int k => ∃ v, l = [.int k v] ∧ (Lit.int k v).wf = true
    | .str => ∃ s, l = [.str s] ∧ s.length ≤ reachBytes
    | .slice e => l = [.nils] ∨ l = [.emp] ∨ ∃ (b len sz : Nat) (els : List (List AV)), l = [.sl b 0 len none] ∧ 0 < len ∧ (len ≤ maxLen ∧ ∀ d, T e = some d → len * d.bytes ≤ reachBytes) ∧ asize T e = some sz ∧ H[b]? = some ⟨els.flatten, sz, .ro⟩ ∧ els.length = len ∧ ∀ x ∈ els, x.length = sz ∧ Inp T H n e x
    | .struct fs => ∃ parts : List (List AV), l = parts.flatten ∧ parts.length = fs.length ∧ ∀ (i : Nat) f p, fs[i]? = some f → parts[i]? = some p → asize T f.2 = some p.length ∧ Inp T H n f.2 p
    | _ => False
/-- Fields lie one behind the other: where they end. -/
def contig (T : TypeId → Option TD) : Nat → List (Nat × TypeId) → Option Nat
  | off, [] => some off
  | off, (o, t) :: fs => match asize T t with
    | some n => if o = off then contig T (off + n) fs else none
    | none => none
def okTy (T : TypeId → Option TD) : Nat → TypeId → Bool
  | 0, _ => false
  | n + 1, t => match tk T t with
    | .bool | .int _ | .str => true
    | .slice e => (match asize T e with | some (_ + 1) => true | _ => false) && okTy T n e
    | .struct fs => (match contig T 0 fs, asize T t with | some a, some b => a == b | _, _ => false) && fs.all fun f => okTy T n f.2
    | _ => false

theorem Inp.snoc {T : TypeId → Option TD} {H : Heap} {B : Blk} : ∀ {n : Nat} {t : TypeId} {l : List AV}, Inp T H n t l → Inp T (H ++ [B]) n t l
  | 0, t, l, h => h.elim
  | n + 1, t, l, h => by
    unfold Inp at h ⊢
    split
    · simp only [*] at h ⊢; exact h
    · simp only [*] at h ⊢; exact h
    · simp only [*] at h ⊢; exact h
    · rename_i e he
      simp only [he] at h ⊢
      rcases h with h | h | ⟨b, len, sz, els, h1, h2, h3, h4, h5, h6, h7⟩
      · exact .inl h
      · exact .inr (.inl h)
      · exact .inr (.inr ⟨b, len, sz, els, h1, h2, h3, h4, by rw [List.getElem?_append_left (List.getElem?_eq_some_iff.1 h5).1]; exact h5, h6, fun x hx => ⟨(h7 x hx).1, (h7 x hx).2.snoc⟩⟩)
    · rename_i fs hf
      simp only [hf] at h ⊢
      obtain ⟨parts, h1, h2, h3⟩ := h
      exact ⟨parts, h1, h2, fun i f p hf hp => ⟨(h3 i f p hf hp).1, (h3 i f p hf hp).2.snoc⟩⟩
    · simp only [*] at h
theorem Inp.append {T : TypeId → Option TD} {H : Heap} {n : Nat} {t : TypeId} {l : List AV} (h : Inp T H n t l) (G : Heap) : Inp T (H ++ G) n t l := by
  induction G generalizing H with
  | nil => simpa using h
  | cons B G ih => have := ih (h.snoc (B := B)); simpa using this

section
variable {P : Program} {T : TypeId → Option TD} {φ : Ph} {base : Nat} {H : Heap} {w : World}

theorem Rel.addRo (h : Rel base φ H w) {B : Blk} {L : Loc} (hst : B.st = .ro) (hrel : BlkRel base (upd φ H.length L) B L w) : Rel base (upd φ H.length L) (H ++ [B]) w := by
  have h' := h.snoc B
  have hun := h.unmapped
  have hsub := upd_sub L hun
  have hget : (H ++ [B])[H.length]? = some B := by simp
  have hno : ∀ (C : Blk), (H ++ [B])[H.length]? = some C → C.st.own = true → False := fun C hC ho => by
    rw [hget] at hC; simp only [Option.some.injEq] at hC; subst hC; rw [hst] at ho; cases ho
  refine ⟨fun b C M hC hM => ?_, fun b c C D M N hC hD h1 h2 hM hN hr => ?_, fun b M hM => ?_, h.size, h.fzOk, fun r z b C M hz hC ho hM => ?_⟩
  rotate_left 3
  · by_cases e : b = H.length
    · subst e; exact (hno C hC ho).elim
    · rw [upd_other φ L e] at hM; exact h'.fzSep r z b C M hz hC ho hM
  · by_cases e : b = H.length
    · subst e
      rw [upd_same] at hM; simp only [Option.some.injEq] at hM; subst hM
      rw [hget] at hC; simp only [Option.some.injEq] at hC; subst hC
      exact hrel
    · rw [upd_other φ L e] at hM
      exact (h'.blk b C M hC hM).mono hsub (fun _ _ => rfl)
  · by_cases e : b = H.length
    · subst e; exact (hno C hC h1).elim
    · by_cases e' : c = H.length
      · subst e'; exact (hno D hD h2).elim
      · rw [upd_other φ L e] at hM
        rw [upd_other φ L e'] at hN
        exact h'.inj b c C D M N hC hD h1 h2 hM hN hr
  · by_cases e : b = H.length
    · subst e; simp
    · rw [upd_other φ L e] at hM; exact h'.dom b M hM

theorem cellsOf_eq (hT : TOk P T) {t : TypeId} {n : Nat} (h : asize T t = some n) : P.cellsOf t = n := by
  unfold asize at h
  cases hd : T t with
  | none => rw [hd] at h; cases h
  | some d =>
    rw [hd] at h
    simp only [Option.map_some, Option.some.injEq] at h; subst h
    obtain ⟨i, u, z, hi⟩ := tdOf_is (hT t d hd)
    simp [Program.cellsOf, hi.info, hi.size]

theorem flatten_get {α : Type} {k : Nat} : ∀ (els : List (List α)), (∀ x ∈ els, x.length = k) → ∀ (i : Nat) a, els.flatten[i]? = some a → ∃ q r x, i = q * k + r ∧ r < k ∧ els[q]? = some x ∧ x[r]? = some a
  | [], _, i, a, h => by simp at h
  | x :: els, hk, i, a, h => by
    rw [List.flatten_cons] at h
    have hx := hk x (by simp)
    by_cases hi : i < x.length
    · rw [List.getElem?_append_left hi] at h
      exact ⟨0, i, x, by simp, by omega, rfl, h⟩
    · rw [List.getElem?_append_right (by omega)] at h
      obtain ⟨q, r, y, h1, h2, h3, h4⟩ := flatten_get els (fun y hy => hk y (by simp [hy])) _ a h
      refine ⟨q + 1, r, y, ?_, h2, by simpa using h3, h4⟩
      rw [Nat.add_mul]; omega

theorem weightsAll_mem {K : Type} {e : TypeId} {d : DataW K} {k : Nat} : ∀ {l : List (DataW K)}, d ∈ l → k ∈ d.weights P e → k ∈ DataW.weightsAll P e l
  | x :: l, hd, hk => by
    simp only [DataW.weightsAll, List.mem_append]
    rcases List.mem_cons.1 hd with rfl | hd
    · exact .inl hk
    · exact .inr (weightsAll_mem hd hk)
/-- WHAT COMES IN. -/
theorem inp_of_trod {K : Type} {enc : TypeId × Value → K} (hT : TOk P T) {spare : Nat → Bool} {held : Bool} : ∀ (n : Nat) (t : TypeId), okTy T n t = true → ∀ (fuel : Nat) (cs : List Value) (x : DataW K × List MemPlace),
    DataW.trod enc P w 0 spare held fuel t cs = some x → (∀ k ∈ x.1.weights P t, k ≤ reachBytes) → ∀ (H : Heap) (φ : Ph), Rel w.heap.size φ H w →
    ∃ (G : Heap) (φ' : Ph) (l : List AV), Rel w.heap.size φ' (H ++ G) w ∧ Pres H φ φ' ∧ RVs φ' l cs ∧ Inp T (H ++ G) n t l ∧ ∀ a ∈ l, a.one = true
  | 0, t, hok, _, _, _, _, _, _, _, _ => by simp [okTy] at hok
  | n + 1, t, hok, fuel, cs, x, h, hwt, H, φ, hR => by
    unfold okTy at hok
    split at hok
    · rename_i hk
      obtain ⟨d, i, u, z, hd, hdk, hi⟩ := tk_is hT hk (by simp)
      obtain ⟨b, rfl, _⟩ := DataW.trod_bool (by rw [hi.und, tkOf_bool (hi.k.trans hdk)]) h
      exact ⟨[], φ, [.bool b], by simpa using hR, ⟨fun _ _ => rfl, rfl⟩, RVs.cons (.bool b) (RVs.nil φ), by unfold Inp; rw [hk]; exact ⟨b, rfl⟩, by simp [AV.one]⟩
    · rename_i k hk
      obtain ⟨d, i, u, z, hd, hdk, hi⟩ := tk_is hT hk (by simp)
      obtain ⟨v, rfl, _, hwf⟩ := DataW.trod_int (by rw [hi.und, tkOf_int (hi.k.trans hdk)]) h
      exact ⟨[], φ, [.int k v], by simpa using hR, ⟨fun _ _ => rfl, rfl⟩, RVs.cons (.int k v) (RVs.nil φ), by unfold Inp; rw [hk]; exact ⟨v, rfl, hwf⟩, by simp [AV.one]⟩
    · rename_i hk
      obtain ⟨d, i, u, z, hd, hdk, hi⟩ := tk_is hT hk (by simp)
      obtain ⟨s, rfl, hx, _⟩ := DataW.trod_string (by rw [hi.und, tkOf_str (hi.k.trans hdk)]) h
      have hs : s.data.toList.length ≤ reachBytes := hwt _ (by rw [hx]; simp [DataW.weights])
      refine ⟨[], φ, [.str s.data.toList], by simpa using hR, ⟨fun _ _ => rfl, rfl⟩, RVs.cons ?_ (RVs.nil φ), by unfold Inp; rw [hk]; exact ⟨_, rfl, hs⟩, by simp [AV.one]⟩
      have := RV.str (φ := φ) s.data.toList
      simpa using this
    · rename_i e hk
      obtain ⟨d, i, u, z, hd, hdk, hi⟩ := tk_is hT hk (by simp)
      simp only [Bool.and_eq_true] at hok
      obtain ⟨hsz, hoke⟩ := hok
      split at hsz
      · rename_i k hke
        have hcell := cellsOf_eq hT hke
        rcases DataW.trod_slice (by rw [hi.und, tkOf_slice (hi.k.trans hdk)]) h with ⟨rfl, _⟩ | ⟨a, len, cap, elems, rest, m, _, rfl, hx, _, hlc, hcm, hel, hcs, _, _⟩
        · exact ⟨[], φ, [.nils], by simpa using hR, ⟨fun _ _ => rfl, rfl⟩, RVs.cons .nils (RVs.nil φ), by unfold Inp; rw [hk]; exact .inl rfl, by simp [AV.one]⟩
        · by_cases hlen : len = 0
          · subst hlen
            exact ⟨[], φ, [.emp], by simpa using hR, ⟨fun _ _ => rfl, rfl⟩, RVs.cons (.emp a cap) (RVs.nil φ), by unfold Inp; rw [hk]; exact .inr (.inl rfl), by simp [AV.one]⟩
          · rw [hcell] at hcs
            -- the address
            have hund : P.underlying t = some (.slice e) := by rw [hi.und, tkOf_slice (hi.k.trans hdk)]
            rw [hx] at hwt
            simp only [DataW.weights, hund] at hwt
            have hcell0 : ∀ i, i < len → ∃ vs y, w.cells? 0 (a.add (i * (k + 1))) (k + 1) = some vs ∧ DataW.trod enc P w 0 spare held m e vs = some y ∧ ∀ q ∈ y.1.weights P e, q ≤ reachBytes := fun i hi => by
              have := hcs i hi
              have hil : i < elems.length := by omega
              rw [List.getElem?_eq_getElem hil] at this
              cases hv : w.cells? 0 (a.add (i * (k + 1))) (k + 1) with
              | none => rw [hv] at this; cases this
              | some vs =>
                rw [hv] at this
                refine ⟨vs, _, rfl, this, fun q hq => hwt q ?_⟩
                refine List.mem_cons_of_mem _ (List.mem_append_left _ (weightsAll_mem (List.mem_map.2 ⟨_, List.getElem_mem hil, rfl⟩) hq))
            have hroom : ∀ d, T e = some d → len * d.bytes ≤ reachBytes := fun d hd => by
              obtain ⟨ie, ue, ze, hie⟩ := tdOf_is (hT e d hd)
              have hb : P.bytesOf e = d.bytes := by simp [Program.bytesOf, hie.info, hie.bytes]
              have := hwt _ (List.mem_cons_self ..)
              rw [hb, List.length_map, List.length_map, hel] at this
              exact Nat.le_trans (Nat.mul_le_mul_right _ (Nat.le_add_right _ _)) this
            have hat : ∀ i vs, w.cells? 0 (a.add (i * (k + 1))) (k + 1) = some vs → vs.length = k + 1 ∧ ∀ (j : Nat) v, vs[j]? = some v → w.cell? ((a.add (i * (k + 1))).add j) = some v := fun i vs hv => by
              unfold World.cells? at hv
              rw [if_pos (Nat.zero_le _)] at hv
              have hl := mapM_some_length hv
              refine ⟨by simpa using hl, fun j v hj => ?_⟩
              have hjl : j < k + 1 := by have := (List.getElem?_eq_some_iff.1 hj).1; simp at hl; omega
              have := mapM_some_get hv j j (by simp [hjl])
              rw [this]; exact hj
            have hspot : a.spot = none ∧ a.block < w.heap.size := by
              obtain ⟨vs, y, hv, _, _⟩ := hcell0 0 (by omega)
              obtain ⟨hl, hc⟩ := hat 0 vs hv
              have h0 := hc 0 vs[0] (List.getElem?_eq_getElem (by omega))
              simp only [Nat.zero_mul] at h0
              have hadd : (a.add 0).add 0 = a := by simp [Addr.add]
              rw [hadd] at h0
              refine ⟨?_, World.block_lt_of_cell? w _ h0⟩
              unfold World.cell? at h0
              split at h0
              · split at h0
                · cases h0
                · rename_i hs; simpa using hs
              · cases h0
            have haddr : ∀ i j, (a.add i).add j = ⟨a.block, a.off + (i + j), none⟩ := fun i j => by
              obtain ⟨ab, ao, as⟩ := a
              simp only at hspot
              rw [hspot.1]
              rw [addr_add, addr_add, Nat.add_assoc]
            -- the elements, one by one
            have main : ∀ q, q ≤ len → ∃ (G : Heap) (φ' : Ph) (els : List (List AV)), Rel w.heap.size φ' (H ++ G) w ∧ Pres H φ φ' ∧ els.length = q ∧ (∀ x ∈ els, x.length = k + 1 ∧ Inp T (H ++ G) n e x) ∧
                ∀ (i r : Nat) x av, els[i]? = some x → x[r]? = some av → av.one = true ∧ ∃ v, w.cell? ⟨a.block, a.off + (i * (k + 1) + r), none⟩ = some v ∧ RV φ' av v := by
              intro q
              induction q with
              | zero => intro _; exact ⟨[], φ, [], by simpa using hR, ⟨fun _ _ => rfl, rfl⟩, rfl, by simp, fun i r x av h => by simp at h⟩
              | succ q ih =>
                intro hq
                obtain ⟨G, φ', els, k1, k2, k3, k4, k5⟩ := ih (by omega)
                obtain ⟨vs, y, hv, hy, hyw⟩ := hcell0 q (by omega)
                obtain ⟨hl, hc⟩ := hat q vs hv
                obtain ⟨G', φ'', l, j1, j2, j3, j4, j5⟩ := inp_of_trod hT n e hoke m vs y hy hyw (H ++ G) φ' k1
                have hsub : φ'.le φ'' := ⟨fun b L hb => (j2.loc b (k1.dom b L hb)).trans hb, fun r z hz => by rw [j2.fz]; exact hz⟩
                refine ⟨G ++ G', φ'', els ++ [l], by rw [← List.append_assoc]; exact j1, ⟨fun b hb => (j2.loc b (by simp; omega)).trans (k2.loc b hb), j2.fz.trans k2.fz⟩, by simp [k3], fun x hx => ?_, fun i r x av hx hav => ?_⟩
                · rw [← List.append_assoc]
                  simp only [List.mem_append, List.mem_singleton] at hx
                  rcases hx with hx | rfl
                  · exact ⟨(k4 x hx).1, (k4 x hx).2.append G'⟩
                  · exact ⟨j3.1.trans hl, j4⟩
                · rw [List.getElem?_append] at hx
                  split at hx
                  · obtain ⟨g1, v, g2, g3⟩ := k5 i r x av hx hav
                    exact ⟨g1, v, g2, g3.mono hsub⟩
                  · rename_i hi
                    have hi' : i = q := by
                      have := (List.getElem?_eq_some_iff.1 hx).1
                      simp at this; omega
                    subst hi'
                    rw [k3, Nat.sub_self] at hx
                    simp only [List.getElem?_cons_zero, Option.some.injEq] at hx
                    subst hx
                    obtain ⟨v, hv1, hv2⟩ := j3.getD r hav
                    refine ⟨j5 av (List.mem_of_getElem? hav), v, ?_, hv2⟩
                    have := hc r v hv1
                    rwa [haddr] at this
            obtain ⟨G, φ', els, k1, k2, k3, k4, k5⟩ := main len (Nat.le_refl _)
            have hk1 : ∀ x ∈ els, x.length = k + 1 := fun x hx => (k4 x hx).1
            have hsub := upd_sub (⟨a.block, a.off, 0, k + 1, false⟩ : Loc) k1.unmapped
            have hadd := k1.addRo (B := ⟨els.flatten, k + 1, .ro⟩) (L := ⟨a.block, a.off, 0, k + 1, false⟩) rfl (by
              unfold BlkRel
              simp only
              refine ⟨.inl ⟨rfl, hspot.2⟩, trivial, fun i av hav => ?_⟩
              obtain ⟨q, r, x, rfl, hr, hx, hxr⟩ := flatten_get els hk1 i av hav
              obtain ⟨g1, v, g2, g3⟩ := k5 q r x av hx hxr
              exact ⟨g1, v, g2, g3.mono hsub⟩)
            have ha : a = ⟨a.block, a.off + 0, none⟩ := by
              obtain ⟨ab, ao, as⟩ := a
              simp only at hspot
              rw [hspot.1]; rfl
            refine ⟨G ++ [⟨els.flatten, k + 1, .ro⟩], upd φ' (H ++ G).length ⟨a.block, a.off, 0, k + 1, false⟩, [.sl (H ++ G).length 0 len none], by rw [← List.append_assoc]; exact hadd, ⟨fun b hb => by rw [upd_other _ _ (by simp; omega)]; exact k2.loc b hb, k2.fz⟩, RVs.cons ?_ (RVs.nil _), ?_, by simp [AV.one]⟩
            · have := RV.sl (φ := upd φ' (H ++ G).length ⟨a.block, a.off, 0, k + 1, false⟩) (H ++ G).length 0 len none ⟨a.block, a.off, 0, k + 1, false⟩ cap (upd_same ..) ⟨hlc, hcm, fun h => by cases h⟩
              rw [ha]; exact this
            · unfold Inp
              rw [hk]
              refine .inr (.inr ⟨(H ++ G).length, len, k + 1, els, rfl, by omega, ⟨by omega, hroom⟩, hke, by rw [← List.append_assoc]; simp, k3, fun x hx => ⟨hk1 x hx, ?_⟩⟩)
              rw [← List.append_assoc]
              exact (k4 x hx).2.snoc
      · cases hsz
    · rename_i fs hk
      obtain ⟨d, i, u, z, hd, hdk, hi⟩ := tk_is hT hk (by simp)
      obtain ⟨gs, rfl, hgs⟩ := tkOf_struct (hi.k.trans hdk)
      obtain ⟨xs, m, _, hx, hlen, hxl, hxs⟩ := DataW.trod_struct hi.und h
      rw [hx] at hwt
      simp only [DataW.weights, hi.und] at hwt
      simp only [Bool.and_eq_true] at hok
      obtain ⟨hcon, hall⟩ := hok
      split at hcon
      · rename_i tot sz hc1 hc2
        simp only [beq_iff_eq] at hcon
        subst hcon
        have hlen' : cs.length = tot := by rw [hlen]; exact cellsOf_eq hT hc2
        have main : ∀ (fl : List (Nat × TypeId)) (off : Nat), (∀ f ∈ fl, okTy T n f.2 = true ∧ ∃ y, DataW.trod enc P w 0 spare held m f.2 ((cs.drop f.1).take (P.cellsOf f.2)) = some y ∧ ∀ q ∈ y.1.weights P f.2, q ≤ reachBytes) → contig T off fl = some tot →
            ∀ (H : Heap) (φ : Ph), Rel w.heap.size φ H w → ∃ (G : Heap) (φ' : Ph) (parts : List (List AV)), Rel w.heap.size φ' (H ++ G) w ∧ Pres H φ φ' ∧ parts.length = fl.length ∧
              (∀ (i : Nat) f p, fl[i]? = some f → parts[i]? = some p → asize T f.2 = some p.length ∧ Inp T (H ++ G) n f.2 p) ∧ RVs φ' parts.flatten (cs.drop off) ∧ ∀ a ∈ parts.flatten, a.one = true := by
          intro fl
          induction fl with
          | nil =>
            intro off _ hc H φ hR
            simp only [contig, Option.some.injEq] at hc
            refine ⟨[], φ, [], by simpa using hR, ⟨fun _ _ => rfl, rfl⟩, rfl, fun i f p h => by simp at h, ?_, by simp⟩
            rw [List.drop_of_length_le (by omega)]
            exact RVs.nil φ
          | cons f fl ih =>
            intro off hf hc H φ hR
            obtain ⟨o, ft⟩ := f
            simp only [contig] at hc
            split at hc
            · rename_i fz hfz
              split at hc
              · rename_i ho
                subst ho
                obtain ⟨hok1, y, hy, hyw⟩ := hf (o, ft) (by simp)
                obtain ⟨G, φ', l, k1, k2, k3, k4, k5⟩ := inp_of_trod hT n ft hok1 m _ y hy hyw H φ hR
                rw [cellsOf_eq hT hfz] at k3
                obtain ⟨G', φ'', parts, j1, j2, j3, j4, j5, j6⟩ := ih (o + fz) (fun f hf' => hf f (by simp [hf'])) hc (H ++ G) φ' k1
                have hsub : φ'.le φ'' := ⟨fun b L hb => (j2.loc b (k1.dom b L hb)).trans hb, fun r z hz => by rw [j2.fz]; exact hz⟩
                have hge : o + fz ≤ tot := by
                  have : ∀ (fl : List (Nat × TypeId)) (a b : Nat), contig T a fl = some b → a ≤ b := by
                    intro fl
                    induction fl with
                    | nil => intro a b h; simp only [contig, Option.some.injEq] at h; omega
                    | cons f fl ih =>
                      intro a b h
                      simp only [contig] at h
                      split at h
                      · split at h
                        · have := ih _ _ h; omega
                        · cases h
                      · cases h
                  exact this _ _ _ hc
                have hll : l.length = fz := by rw [k3.1]; simp; omega
                refine ⟨G ++ G', φ'', l :: parts, by rw [← List.append_assoc]; exact j1, ⟨fun b hb => (j2.loc b (by simp; omega)).trans (k2.loc b hb), j2.fz.trans k2.fz⟩, by simp [j3], fun i f p hi hp => ?_, ?_, fun a ha => ?_⟩
                · rw [← List.append_assoc]
                  cases i with
                  | zero =>
                    simp only [List.getElem?_cons_zero, Option.some.injEq] at hi hp
                    subst hi; subst hp
                    exact ⟨by rw [hll]; exact hfz, k4.append G'⟩
                  | succ i => exact j4 i f p (by simpa using hi) (by simpa using hp)
                · rw [List.flatten_cons]
                  have : cs.drop o = (cs.drop o).take fz ++ cs.drop (o + fz) := by
                    rw [← List.drop_drop]; exact (List.take_append_drop fz (cs.drop o)).symm
                  rw [this]
                  exact (k3.mono hsub).append j5
                · rw [List.flatten_cons, List.mem_append] at ha
                  rcases ha with ha | ha
                  · exact k5 a ha
                  · exact j6 a ha
              · cases hc
            · cases hc
        have hfields : ∀ f ∈ gs.toList.map (fun f => (f.offset, f.type)), okTy T n f.2 = true ∧ ∃ y, DataW.trod enc P w 0 spare held m f.2 ((cs.drop f.1).take (P.cellsOf f.2)) = some y ∧ ∀ q ∈ y.1.weights P f.2, q ≤ reachBytes := fun f hf => by
          refine ⟨by rw [hgs] at hf; exact List.all_eq_true.1 hall f hf, ?_⟩
          simp only [List.mem_map] at hf
          obtain ⟨g, hg, rfl⟩ := hf
          obtain ⟨i, hi, hgi⟩ := List.getElem_of_mem hg
          have hgi' : gs[i]? = some g := by rw [← Array.getElem?_toList]; rw [List.getElem?_eq_getElem hi, hgi]
          have := hxs i g hgi'
          have hil : i < xs.length := by rw [hxl]; simpa using hi
          rw [List.getElem?_eq_getElem hil] at this
          refine ⟨_, this, fun q hq => hwt q (DataW.weights_mem_each (j := i) (t := g.type) ?_ ?_ q hq)⟩
          · rw [List.getElem?_map, Array.getElem?_toList, hgi']; rfl
          · rw [List.getElem?_map, List.getElem?_eq_getElem hil]; rfl
        rw [← hgs] at hc1
        obtain ⟨G, φ', parts, k1, k2, k3, k4, k5, k6⟩ := main _ 0 hfields hc1 H φ hR
        refine ⟨G, φ', parts.flatten, k1, k2, by simpa using k5, ?_, k6⟩
        unfold Inp
        rw [hk]
        refine ⟨parts, rfl, ?_, ?_⟩
        · rw [k3, hgs]
        · rw [← hgs]; exact k4
      · cases hcon
    · cases hok
end
end Go.Proofs.PI

