/- What the statements of this seat lean on: the functions that they reach, walked. -/
import Derived.Test.YtakbijpcfnipoaaZg8
set_option linter.unusedSimpArgs false
set_option linter.unusedVariables false

set_option linter.unusedVariables false
set_option linter.unusedSimpArgs false
namespace Go.Proofs.Ytakbijpcfnipoaa.L
open Go.RowKit Go.Proofs.YtakbijpcfnipoaaW.PrintWords Go.Proofs.YtakbijpcfnipoaaW.PrintLast Go.Proofs.YtakbijpcfnipoaaW.PrintMore
open Go.Proofs.Ytakbijpcfnipoaa.PA Go.Proofs.Ytakbijpcfnipoaa.A Go.Proofs.Ytakbijpcfnipoaa.Lf
theorem near_ev {s : List Int} (hk1 : 1 ≤ s.length) (hk3 : s.length ≤ 3) (hs : Pos s.length s) {f : Int} (hf : Fl f) : Ev (fun k => turndownref07_Near.f k s f) (near s f) := by
  have key : ∀ e i, 1 ≤ i → i + e = s.length → Ev (fun k => turndownref07_Near.l0 k s f (bestI s f i : Nat) (i : Int)) (near s f) := by
    intro e
    induction e with
    | zero =>
      intro i h1 hi
      obtain rfl : i = s.length := by omega
      have hb := bestI_lt s f s.length
      refine Ev.step (fun k => ?_) (Ev.bind (f := fun _ t => some t) (moved_ev (by omega) hs.srt (i := bestI s f s.length) (by omega) f) (Ev.now _))
      rw [turndownref07_Near.l0, if_neg (by omega)]
    | succ e ih =>
      intro i h1 hi
      have hb := bestI_lt s f i
      have f1 := getD_fl2 hs (i := i) (by omega)
      have f2 := getD_fl2 hs (i := bestI s f i) (by omega)
      have h2 := ih (i + 1) (by omega) (by omega)
      refine Ev.step (fun k => ?_) h2
      rw [turndownref07_Near.l0, if_pos (by omega), if_pos (by omega), if_pos (by omega), if_pos (by omega), rd_nat, rd_nat, mx_ab f1 hf, mx_ab f2 hf, w1 (by omega)]
      have e1 : bestI s f (i + 1) = if ab (s.getD i 0) f < ab (s.getD (bestI s f i) 0) f then i else bestI s f i := rfl
      rw [e1]
      split
      · rfl
      · rfl
  have h := key (s.length - 1) 1 (by omega) (by omega)
  have e1 : bestI s f 1 = 0 := by
    show (if ab (s.getD 0 0) f < ab (s.getD (bestI s f 0) 0) f then 0 else bestI s f 0) = 0
    split
    · rfl
    · rfl
  rw [e1] at h
  exact h
def hdK : Kd (Option Addr × Nat × Nat) := Kd.scalar (fun x : Option Addr × Nat × Nat => Value.slice x.1 x.2.1 x.2.2) (fun _ => rfl)
def RowAt (B : Nat) (W : World) (h : Option Addr × Nat × Nat) (l : List Int) : Prop :=
  h.2.1 = l.length ∧ l.length ≤ h.2.2 ∧ l.length ≤ 1000 ∧ ∃ ad, h.1 = some ad ∧ (∀ j, j < l.length → W.cell? (ad.add j) = some (.int .i64 (l.getD j 0))) ∧ ad.block < W.heap.size ∧ (ad.block < B ∨ ∃ cells, W.heap[ad.block]? = some (.cells cells 3 (0, 0)))
theorem add_block (ad : Addr) (j : Nat) : (ad.add j).block = ad.block := by unfold Addr.add; split <;> rfl
theorem RowAt.C {B : Nat} {W : World} {h : Option Addr × Nat × Nat} {l : List Int} (hr : RowAt B W h l) : Kd.C (Kd.int .i64) W h.1 l.length l := by
  obtain ⟨h1, h2, h3, ad, e, hc, _⟩ := hr
  refine ⟨rfl, by omega, fun _ => ⟨ad, e, fun j p hj => ⟨[.int .i64 p], rfl, rfl, fun i u hu => ?_⟩⟩⟩
  have hi0 : i = 0 := by
    have := (List.getElem?_eq_some_iff.1 hu).1
    simp at this; exact this
  subst hi0
  simp at hu
  subst hu
  obtain ⟨hjl, rfl⟩ := List.getElem?_eq_some_iff.1 hj
  show W.cell? (ad.add (j * 1 + 0)) = _
  rw [show j * 1 + 0 = j by omega, hc j hjl, List.getD_eq_getElem?_getD, List.getElem?_eq_getElem hjl]
  rfl
theorem RowAt.moved {B : Nat} {W W' : World} {h : Option Addr × Nat × Nat} {l : List Int} (hr : RowAt B W h l) (hz : W.heap.size ≤ W'.heap.size) (hb : ∀ b, b < W.heap.size → (b < B ∨ ∃ cells, W.heap[b]? = some (.cells cells 3 (0, 0))) → W'.heap[b]? = W.heap[b]?) : RowAt B W' h l := by
  obtain ⟨h1, h2, h3, ad, e, hc, hlt, hty⟩ := hr
  have hk := hb ad.block hlt hty
  refine ⟨h1, h2, h3, ad, e, fun j hj => ?_, Nat.lt_of_lt_of_le hlt hz, ?_⟩
  · rw [World.cell?_of_block (show W'.heap[(ad.add j).block]? = W.heap[(ad.add j).block]? by rw [add_block]; exact hk)]
    exact hc j hj
  · rw [hk]; exact hty
theorem RowAt.below {B : Nat} {W W' : World} {h : Option Addr × Nat × Nat} {l : List Int} (hr : RowAt B W h l) (hb : Below W.heap.size W W') : RowAt B W' h l := hr.moved hb.size (fun b hlt _ => hb.block b hlt)
theorem RowAt.grown {B : Nat} {W W' : World} {h : Option Addr × Nat × Nat} {l : List Int} {row : Option Nat} (hr : RowAt B W h l) (hg : W.grownBy W' row) (ho : ∀ b, row = some b → B ≤ b ∧ ∃ cells, W.heap[b]? = some (.cells cells 22 (0, 0))) : RowAt B W' h l :=
  hr.moved hg.size (fun b hlt hty => hg.block b hlt (fun e => by
    obtain ⟨h1, cells, h2⟩ := ho b e.symm
    rcases hty with hty | ⟨cells', hty⟩
    · omega
    · rw [h2] at hty; injection hty with hty; injection hty with _ hty; cases hty))
theorem RowAt.ofC {W : World} {A : Option Addr} {c : Nat} {l : List Int} (hr : Kd.C (Kd.int .i64) W A l.length l) (hc : l.length ≤ c) (hl : l.length ≤ 1000) (h0 : 0 < l.length) : RowAt W.heap.size W (A, l.length, c) l := by
  obtain ⟨ad, rfl, hM⟩ := mem1 hr h0
  refine ⟨rfl, hc, hl, ad, rfl, fun j hj => ?_, ?_, ?_⟩
  · rw [List.getD_eq_getElem?_getD, List.getElem?_eq_getElem hj]
    exact (hM j _ (List.getElem?_eq_getElem hj)).1
  · have := (hM 0 _ (List.getElem?_eq_getElem h0)).2
    rwa [add_block] at this
  · have := (hM 0 _ (List.getElem?_eq_getElem h0)).2
    rw [add_block] at this
    exact .inl this
theorem RowAt.lift {B B' : Nat} {W : World} {h : Option Addr × Nat × Nat} {l : List Int} (hr : RowAt B W h l) (hB : B ≤ B') : RowAt B' W h l := by
  obtain ⟨h1, h2, h3, ad, e, hc, hlt, hty⟩ := hr
  exact ⟨h1, h2, h3, ad, e, hc, hlt, hty.imp (fun h => by omega) id⟩
theorem RowAt.ofR {B : Nat} {W : World} {base : Nat} {v : Value} {l : List Int} (hr : Kd.R (Kd.int .i64) 3 W base (fun _ => True) v l) (hl : l.length ≤ 1000) (h0 : 0 < l.length) : ∃ A c, v = .slice A l.length c ∧ RowAt B W (A, l.length, c) l := by
  obtain ⟨g, cap, ev, _, hg, hty⟩ := Kd.R_form hr h0
  subst ev
  refine ⟨_, _, rfl, rfl, ?_, hl, ⟨g, 0, none⟩, rfl, fun j hj => ?_, hg, .inr hty⟩
  · obtain ⟨hn, hnc, _⟩ := Kd.R_reads' hr
    exact hnc
  · obtain ⟨c, hcl, hMM, hcc, hfr⟩ := Kd.R_elem hr 0 (j : Int) (by omega) (by omega)
    rw [Int.toNat_natCast] at hMM hcc
    have e1 : c = [.int .i64 (l.getD j 0)] := hMM
    subst e1
    have h1 := hcc 0 _ rfl
    rw [show j * (Kd.int .i64).sz + 0 = j from Nat.mul_one j] at h1
    rw [add0]
    exact h1
theorem heads_C {B base : Nat} {W : World} {v : Value} {hs : List (Option Addr × Nat × Nat)} {rows : List (List Int)} (h : Kd.S hdK 22 W base (fun _ => True) v hs) (hl : hs.length = rows.length) (hr : ∀ j, j < rows.length → RowAt B W (hs.getD j (none, 0, 0)) (rows.getD j [])) :
    ∃ A c, v = .slice A rows.length c ∧ rows.length ≤ c ∧ Kd.C (Kd.slice 3 (Kd.int .i64)) W A rows.length rows := by
  obtain ⟨A, c, ev, hc, hC⟩ := Kd.S_reads h
  rw [hl] at ev hc hC
  refine ⟨A, c, ev, hc, ?_⟩
  obtain ⟨g1, g2, g3⟩ := hC
  refine ⟨rfl, g2, fun h0 => ?_⟩
  obtain ⟨ad, e, hM⟩ := g3 h0
  refine ⟨ad, e, fun j p hj => ?_⟩
  obtain ⟨hjl, rfl⟩ := List.getElem?_eq_some_iff.1 hj
  have hR := hr j hjl
  have e2 : rows.getD j [] = rows[j] := by rw [List.getD_eq_getElem?_getD, List.getElem?_eq_getElem hjl]; rfl
  rw [e2] at hR
  have hjh : j < hs.length := by omega
  have e3 : hs.getD j (none, 0, 0) = hs[j] := by rw [List.getD_eq_getElem?_getD, List.getElem?_eq_getElem hjh]; rfl
  rw [e3] at hR
  obtain ⟨cs, hcl, hK, hcell⟩ := hM j hs[j] (List.getElem?_eq_getElem hjh)
  have hK' : cs = [.slice hs[j].1 hs[j].2.1 hs[j].2.2] := hK
  subst hK'
  obtain ⟨r1, r2, r3, _⟩ := id hR
  refine ⟨[.slice hs[j].1 rows[j].length hs[j].2.2], rfl, ⟨hs[j].1, hs[j].2.2, rfl, r2, hR.C⟩, fun i u hu => ?_⟩
  rw [← r1] at hu
  exact hcell i u hu
set_option maxHeartbeats 8000000 in
set_option maxRecDepth 100000 in
theorem refCareful_c (A : Option Addr) (ca : Nat) (s : List Int) (C : Option Addr) (cc : Nat) (c : List Int) (w : World) (hr : Kd.C (Kd.int .i64) w A s.length s) (hca : s.length ≤ ca) (hc : Kd.C (Kd.int .i64) w C c.length c) (hk1 : 1 ≤ s.length) (hk3 : s.length ≤ 3) (hs : Pos s.length s) (hcf : Fls c) (h40 : c.length ≤ 100) :
    Calls Try.prog 41 #[.slice A s.length ca, .slice C c.length cc] w fun e w' => ∃ E ce, e = .returned (.slice E c.length ce) ∧ c.length ≤ ce ∧ Kd.C (Kd.slice 3 (Kd.int .i64)) w' E c.length (runL Lf.serve s c) ∧ Below w.heap.size w w' := by
  have hst : ∀ s' f, Pos s.length s' → Fl f → Pos s.length (Lf.serve s' f) := fun s' f hs hf => (serve_pos hk1 hk3 hs hf.1 hf.2).1
  have hpos := run_pos hst hs hcf
  obtain ⟨B, hB⟩ : ∃ B, w.heap.size = B := ⟨_, rfl⟩
  have HR0 : Hid (RowAt B w (A, s.length, ca) (pth Lf.serve s c 0)) := Lib.hid (by rw [← hB]; exact RowAt.ofC hr hca (by omega) (by omega))
  have HSV : Hid (∀ i f W Ai ci, i < c.length → c.getD i 0 = f → RowAt B W (Ai, s.length, ci) (pth Lf.serve s c i) → Calls Try.prog 61 #[.slice Ai s.length ci, .int .i64 f] W fun e w' => ∃ A' c', e = .returned (.slice A' s.length c') ∧ RowAt B w' (A', s.length, c') (pth Lf.serve s c (i + 1)) ∧ Below W.heap.size W w') := Lib.hid (fun i f W Ai ci hi hfi hR => by
    have hf : Fl f := by rw [← hfi, List.getD_eq_getElem?_getD, List.getElem?_eq_getElem hi]; exact hcf _ (List.getElem_mem hi)
    rw [pth_succ Lf.serve s hi, hfi]
    have hp := hpos i
    have hR2 := hR
    obtain ⟨q, hq⟩ : ∃ q, pth Lf.serve s c i = q := ⟨_, rfl⟩
    rw [hq] at hp hR hR2 ⊢
    have hql := hp.len
    have hp2 := hst q f hp hf
    have hq2l := hp2.len
    rw [← hql] at hp hk1 hk3 hp2
    obtain ⟨r1, r2, r3, _⟩ := hR2
    have hRC := hR.C
    rw [← hql]
    refine (refServe_c Ai ci q W hRC r2 (by omega) (by omega) hp f hf).mono ?_
    rintro e w' ⟨v, rfl, h, hb⟩
    rcases h with ⟨rfl, e9⟩ | h
    · rw [e9]
      refine ⟨Ai, ci, rfl, ?_, hb⟩
      rw [← hql] at hR
      exact hR.below hb
    · obtain ⟨A', c', rfl, h2⟩ := RowAt.ofR (B := B) h (by omega) (by omega)
      rw [hq2l, ← hql] at h2 ⊢
      exact ⟨A', c', rfl, h2, hb⟩)
  have HCA : Hid (∀ i W, i < c.length → Below B w W → ∃ ad, C = some ad ∧ W.cell? (ad.add i) = some (.int .i64 (c.getD i 0))) := Lib.hid (fun i W hi hW => by
    obtain ⟨ad, e, hm⟩ := mem1 hc (by omega)
    refine ⟨ad, e, ?_⟩
    have h1 := hm i _ (List.getElem?_eq_getElem hi)
    rw [List.getD_eq_getElem?_getD, List.getElem?_eq_getElem hi]
    exact (hW.cell (by rw [← hB]; exact h1.2)).trans h1.1)
  have HLEN : Hid (∀ j, j < c.length → (runL Lf.serve s c).getD j [] = pth Lf.serve s c (j + 1)) := Lib.hid (fun j hj => by
    rw [← outs_pth]; unfold outs
    rw [List.getD_eq_getElem?_getD, List.getElem?_map, List.getElem?_range hj]; rfl)
  have HRL : Hid ((runL Lf.serve s c).length = c.length) := Lib.hid (by rw [← outs_pth]; unfold outs; simp)
  obtain ⟨k, hk⟩ : ∃ n, s.length = n := ⟨_, rfl⟩
  obtain ⟨n, hn⟩ : ∃ n, c.length = n := ⟨_, rfl⟩
  rw [hk] at HR0 HSV
  rw [hn] at HSV HCA HLEN HRL h40
  rw [hk, hn]
  have HBE := Lib.hid hB
  clear hr hca hc hs hcf hst hpos hk1 hk3 hk hn hB
  go_enter Try.func41, Try.ntmps41
  go_wp2_with fail
  go_loopw [5, 6, 7] (fun v5 v6 v7 wr => ∃ (i : Nat) (hs : List (Option Addr × Nat × Nat)) (An : Option Addr) (cn : Nat), v7 = .int .i64 (i : Int) ∧ v6 = .slice An k cn ∧ i ≤ n ∧ Hid (hs.length = i) ∧ Hid (Kd.S hdK 22 wr B (fun _ => True) v5 hs) ∧ Hid (RowAt B wr (An, k, cn) (pth Lf.serve s c i)) ∧ Hid (∀ j, j < i → RowAt B wr (hs.getD j (none, 0, 0)) (pth Lf.serve s c (j + 1))) ∧ Hid (Below B w wr)) (fun _ _ v7 _ => n - (intOf v7).toNat)
  case atStart => exact ⟨0, [], A, ca, rfl, rfl, Nat.zero_le _, Lib.hid rfl, Lib.hid (Kd.S_nil _ _ _ _ _), HR0, Lib.hid (fun j hj => absurd hj (Nat.not_lt_zero _)), Lib.hid (Below.refl _ _)⟩
  case round =>
    rename World => wr
    obtain ⟨i, hs, An, cn, rfl, rfl, hi, HL, HS, HN, HO, HBr⟩ := hrel
    clear HR0
    by_cases hlt : i < n
    · have hlt' : (i : Int) < (n : Int) := by omega
      have hi0 : (0 : Int) ≤ (i : Int) := by omega
      obtain ⟨ad, rfl, hca⟩ := HCA.out i wr hlt HBr.out
      obtain ⟨f, hf⟩ : ∃ f, c.getD i 0 = f := ⟨_, rfl⟩
      have HSQ := Lib.hid (HSV.out i f wr An cn hlt hf HN.out)
      rw [hf] at hca
      clear hf
      go_upto_region 7 with (go_at_call 61; (with_reducible refine HSQ.out.mono ?_); rintro e w2 ⟨A', c', rfl, hR2, hb2⟩)
      have HR2 := Lib.hid hR2
      have HB2 : Hid (Below B w w2) := Lib.hid (HBr.out.trans (hb2.mono (by have := HBr.out.size; have := HBE.out; omega)))
      have HS2 : Hid (Kd.S hdK 22 w2 B (fun _ => True) u5 hs) := Lib.hid (Kd.S_below HS.out hb2)
      have HO2 : Hid (∀ j, j < i → RowAt B w2 (hs.getD j (none, 0, 0)) (pth Lf.serve s c (j + 1))) := Lib.hid (fun j hj => (HO.out j hj).below hb2)
      clear hR2 hb2 HS HN HO HBr hca
      have hBs : B ≤ w2.heap.size := by have := HB2.out.size; have := HBE.out; omega
      go_wp2_with (at_builtin; refine Kd.S_append hdK (w0 := w2) B rfl (.tmp 21) (.tmp 23) 23 22 (.slice none 0 0) 24 rfl Try.underlying23 info22 rfl (by decide) (by omega) _ hs (A', k, c') [.slice A' k c'] (fun _ => True) (fun _ => False) rfl rfl ?aP (fun _ h => h.elim) (fun _ _ => trivial) ?aO ?aB ?aS ?aL ?_)
      case aP => exact rfl
      case aO => exact Kd.S_mono HS2.out (fun _ _ => ⟨trivial, fun h => h⟩)
      case aB => exact Below.refl _ _
      case aS => omega
      case aL => rw [HL.out]; omega
      intro v1 w1 hS1 hB1 hG1 _
      have hown : ∀ b, u5.ownBlock = some b → B ≤ b ∧ ∃ cells, w2.heap[b]? = some (.cells cells 22 (0, 0)) := fun b hb => ⟨Kd.S_base HS2.out b hb, Kd.S_typed HS2.out b hb⟩
      have HR1 := Lib.hid (HR2.out.grown hG1 hown)
      have HS1 := Lib.hid hS1
      have HB1 : Hid (Below B w w1) := Lib.hid (HB2.out.grown hG1 hBs (fun j e => (hown j e).1))
      have HL1 : Hid ((hs ++ [(A', k, c')]).length = i + 1) := Lib.hid (by rw [List.length_append, HL.out]; rfl)
      have HO1 : Hid (∀ j, j < i + 1 → RowAt B w1 ((hs ++ [(A', k, c')]).getD j (none, 0, 0)) (pth Lf.serve s c (j + 1))) := Lib.hid (fun j hj => by
        by_cases e : j = i
        · subst e
          rw [List.getD_eq_getElem?_getD, List.getElem?_append_right (by rw [HL.out]; omega), HL.out, Nat.sub_self]
          exact HR1.out
        · rw [List.getD_eq_getElem?_getD, List.getElem?_append_left (by rw [HL.out]; omega), ← List.getD_eq_getElem?_getD]
          exact (HO2.out j (by omega)).grown hG1 hown)
      clear hS1 hB1 hG1 hown
      go_wp2_with fail
      exact ⟨⟨i + 1, hs ++ [(A', k, c')], A', c', by go_num, rfl, by omega, HL1, HS1, HR1, HO1, HB1⟩, by simp [intOf]; omega⟩
    · obtain rfl : i = n := by omega
      have hge : ¬ (i : Int) < (i : Int) := by omega
      have hfin := heads_C HS.out (by rw [HL.out, HRL.out]) (fun j hj => by rw [HRL.out] at hj; rw [HLEN.out j hj]; exact HO.out j hj)
      rw [HRL.out] at hfin
      obtain ⟨E, ce, ev, hce, hE⟩ := hfin
      subst ev
      have HE := Lib.hid hE
      clear hE
      go_wp2_with fail
      go_ret
      exact ⟨E, ce, rfl, hce, HE.out, by rw [HBE.out]; exact HBr.out⟩
set_option maxHeartbeats 8000000 in
set_option maxRecDepth 100000 in
theorem refNearest_c (A : Option Addr) (ca : Nat) (s : List Int) (C : Option Addr) (cc : Nat) (c : List Int) (w : World) (hr : Kd.C (Kd.int .i64) w A s.length s) (hca : s.length ≤ ca) (hc : Kd.C (Kd.int .i64) w C c.length c) (hk1 : 1 ≤ s.length) (hk3 : s.length ≤ 3) (hs : Pos s.length s) (hcf : Fls c) (h40 : c.length ≤ 100) :
    Calls Try.prog 43 #[.slice A s.length ca, .slice C c.length cc] w fun e w' => ∃ E ce, e = .returned (.slice E c.length ce) ∧ c.length ≤ ce ∧ Kd.C (Kd.slice 3 (Kd.int .i64)) w' E c.length (runL near s c) ∧ Below w.heap.size w w' := by
  have hst : ∀ s' f, Pos s.length s' → Fl f → Pos s.length (near s' f) := fun s' f hs hf => (near_pos hk1 hs hf).1
  have hpos := run_pos hst hs hcf
  obtain ⟨B, hB⟩ : ∃ B, w.heap.size = B := ⟨_, rfl⟩
  have HR0 : Hid (RowAt B w (A, s.length, ca) (pth near s c 0)) := Lib.hid (by rw [← hB]; exact RowAt.ofC hr hca (by omega) (by omega))
  have HSV : Hid (∀ i f W Ai ci, i < c.length → c.getD i 0 = f → RowAt B W (Ai, s.length, ci) (pth near s c i) → Calls Try.prog 63 #[.slice Ai s.length ci, .int .i64 f] W fun e w' => ∃ A' c', e = .returned (.slice A' s.length c') ∧ RowAt B w' (A', s.length, c') (pth near s c (i + 1)) ∧ Below W.heap.size W w') := Lib.hid (fun i f W Ai ci hi hfi hR => by
    have hf : Fl f := by rw [← hfi, List.getD_eq_getElem?_getD, List.getElem?_eq_getElem hi]; exact hcf _ (List.getElem_mem hi)
    rw [pth_succ near s hi, hfi]
    have hp := hpos i
    have hR2 := hR
    obtain ⟨q, hq⟩ : ∃ q, pth near s c i = q := ⟨_, rfl⟩
    rw [hq] at hp hR hR2 ⊢
    have hql := hp.len
    have hp2 := hst q f hp hf
    have hq2l := hp2.len
    rw [← hql] at hp hk1 hk3 hp2
    obtain ⟨r1, r2, r3, _⟩ := hR2
    have hRC := hR.C
    rw [← hql]
    obtain ⟨kk, hkk⟩ := Ev.rounds (near_ev (by omega) (by omega) hp hf)
    refine (turndownref07_Near.calls kk Ai ci q f _ W hRC r2 hkk).mono ?_
    rintro e w' ⟨v, rfl, h, hb⟩
    obtain ⟨A', c', rfl, h2⟩ := RowAt.ofR (B := B) h (by omega) (by omega)
    rw [hq2l, ← hql] at h2 ⊢
    exact ⟨A', c', rfl, h2, hb⟩)
  have HCA : Hid (∀ i W, i < c.length → Below B w W → ∃ ad, C = some ad ∧ W.cell? (ad.add i) = some (.int .i64 (c.getD i 0))) := Lib.hid (fun i W hi hW => by
    obtain ⟨ad, e, hm⟩ := mem1 hc (by omega)
    refine ⟨ad, e, ?_⟩
    have h1 := hm i _ (List.getElem?_eq_getElem hi)
    rw [List.getD_eq_getElem?_getD, List.getElem?_eq_getElem hi]
    exact (hW.cell (by rw [← hB]; exact h1.2)).trans h1.1)
  have HLEN : Hid (∀ j, j < c.length → (runL near s c).getD j [] = pth near s c (j + 1)) := Lib.hid (fun j hj => by
    rw [← outs_pth]; unfold outs
    rw [List.getD_eq_getElem?_getD, List.getElem?_map, List.getElem?_range hj]; rfl)
  have HRL : Hid ((runL near s c).length = c.length) := Lib.hid (by rw [← outs_pth]; unfold outs; simp)
  obtain ⟨k, hk⟩ : ∃ n, s.length = n := ⟨_, rfl⟩
  obtain ⟨n, hn⟩ : ∃ n, c.length = n := ⟨_, rfl⟩
  rw [hk] at HR0 HSV
  rw [hn] at HSV HCA HLEN HRL h40
  rw [hk, hn]
  have HBE := Lib.hid hB
  clear hr hca hc hs hcf hst hpos hk1 hk3 hk hn hB
  go_enter Try.func43, Try.ntmps43
  go_wp2_with fail
  go_loopw [5, 6, 7] (fun v5 v6 v7 wr => ∃ (i : Nat) (hs : List (Option Addr × Nat × Nat)) (An : Option Addr) (cn : Nat), v7 = .int .i64 (i : Int) ∧ v6 = .slice An k cn ∧ i ≤ n ∧ Hid (hs.length = i) ∧ Hid (Kd.S hdK 22 wr B (fun _ => True) v5 hs) ∧ Hid (RowAt B wr (An, k, cn) (pth near s c i)) ∧ Hid (∀ j, j < i → RowAt B wr (hs.getD j (none, 0, 0)) (pth near s c (j + 1))) ∧ Hid (Below B w wr)) (fun _ _ v7 _ => n - (intOf v7).toNat)
  case atStart => exact ⟨0, [], A, ca, rfl, rfl, Nat.zero_le _, Lib.hid rfl, Lib.hid (Kd.S_nil _ _ _ _ _), HR0, Lib.hid (fun j hj => absurd hj (Nat.not_lt_zero _)), Lib.hid (Below.refl _ _)⟩
  case round =>
    rename World => wr
    obtain ⟨i, hs, An, cn, rfl, rfl, hi, HL, HS, HN, HO, HBr⟩ := hrel
    clear HR0
    by_cases hlt : i < n
    · have hlt' : (i : Int) < (n : Int) := by omega
      have hi0 : (0 : Int) ≤ (i : Int) := by omega
      obtain ⟨ad, rfl, hca⟩ := HCA.out i wr hlt HBr.out
      obtain ⟨f, hf⟩ : ∃ f, c.getD i 0 = f := ⟨_, rfl⟩
      have HSQ := Lib.hid (HSV.out i f wr An cn hlt hf HN.out)
      rw [hf] at hca
      clear hf
      go_upto_region 7 with (go_at_call 63; (with_reducible refine HSQ.out.mono ?_); rintro e w2 ⟨A', c', rfl, hR2, hb2⟩)
      have HR2 := Lib.hid hR2
      have HB2 : Hid (Below B w w2) := Lib.hid (HBr.out.trans (hb2.mono (by have := HBr.out.size; have := HBE.out; omega)))
      have HS2 : Hid (Kd.S hdK 22 w2 B (fun _ => True) u5 hs) := Lib.hid (Kd.S_below HS.out hb2)
      have HO2 : Hid (∀ j, j < i → RowAt B w2 (hs.getD j (none, 0, 0)) (pth near s c (j + 1))) := Lib.hid (fun j hj => (HO.out j hj).below hb2)
      clear hR2 hb2 HS HN HO HBr hca
      have hBs : B ≤ w2.heap.size := by have := HB2.out.size; have := HBE.out; omega
      go_wp2_with (at_builtin; refine Kd.S_append hdK (w0 := w2) B rfl (.tmp 21) (.tmp 23) 23 22 (.slice none 0 0) 24 rfl Try.underlying23 info22 rfl (by decide) (by omega) _ hs (A', k, c') [.slice A' k c'] (fun _ => True) (fun _ => False) rfl rfl ?aP (fun _ h => h.elim) (fun _ _ => trivial) ?aO ?aB ?aS ?aL ?_)
      case aP => exact rfl
      case aO => exact Kd.S_mono HS2.out (fun _ _ => ⟨trivial, fun h => h⟩)
      case aB => exact Below.refl _ _
      case aS => omega
      case aL => rw [HL.out]; omega
      intro v1 w1 hS1 hB1 hG1 _
      have hown : ∀ b, u5.ownBlock = some b → B ≤ b ∧ ∃ cells, w2.heap[b]? = some (.cells cells 22 (0, 0)) := fun b hb => ⟨Kd.S_base HS2.out b hb, Kd.S_typed HS2.out b hb⟩
      have HR1 := Lib.hid (HR2.out.grown hG1 hown)
      have HS1 := Lib.hid hS1
      have HB1 : Hid (Below B w w1) := Lib.hid (HB2.out.grown hG1 hBs (fun j e => (hown j e).1))
      have HL1 : Hid ((hs ++ [(A', k, c')]).length = i + 1) := Lib.hid (by rw [List.length_append, HL.out]; rfl)
      have HO1 : Hid (∀ j, j < i + 1 → RowAt B w1 ((hs ++ [(A', k, c')]).getD j (none, 0, 0)) (pth near s c (j + 1))) := Lib.hid (fun j hj => by
        by_cases e : j = i
        · subst e
          rw [List.getD_eq_getElem?_getD, List.getElem?_append_right (by rw [HL.out]; omega), HL.out, Nat.sub_self]
          exact HR1.out
        · rw [List.getD_eq_getElem?_getD, List.getElem?_append_left (by rw [HL.out]; omega), ← List.getD_eq_getElem?_getD]
          exact (HO2.out j (by omega)).grown hG1 hown)
      clear hS1 hB1 hG1 hown
      go_wp2_with fail
      exact ⟨⟨i + 1, hs ++ [(A', k, c')], A', c', by go_num, rfl, by omega, HL1, HS1, HR1, HO1, HB1⟩, by simp [intOf]; omega⟩
    · obtain rfl : i = n := by omega
      have hge : ¬ (i : Int) < (i : Int) := by omega
      have hfin := heads_C HS.out (by rw [HL.out, HRL.out]) (fun j hj => by rw [HRL.out] at hj; rw [HLEN.out j hj]; exact HO.out j hj)
      rw [HRL.out] at hfin
      obtain ⟨E, ce, ev, hce, hE⟩ := hfin
      subst ev
      have HE := Lib.hid hE
      clear hE
      go_wp2_with fail
      go_ret
      exact ⟨E, ce, rfl, hce, HE.out, by rw [HBE.out]; exact HBr.out⟩
end Go.Proofs.Ytakbijpcfnipoaa.L

set_option linter.unusedVariables false
set_option linter.unusedSimpArgs false
namespace Go.Proofs.Ytakbijpcfnipoaa.A
open Go.RowKit Go.Proofs.YtakbijpcfnipoaaW.PrintWords Go.Proofs.YtakbijpcfnipoaaW.PrintLast Go.Proofs.YtakbijpcfnipoaaW.PrintMore
open Go.Proofs.Ytakbijpcfnipoaa.PA Go.Proofs.Ytakbijpcfnipoaa.Lf
set_option maxHeartbeats 2000000 in
theorem from2_c {k : Nat} (hk1 : 1 ≤ k) (hk3 : k ≤ 3) (s0 s1 s2 : Int) (C : Option Addr) (n c : Nat) (B T : Nat) {t x : List Int} (ht : Pos k t) (hx : Pos k x) (w : World) (hH : HallAt B (k : Int) s0 s1 s2 (.slice C n c) w) {t0 t1 t2 : Int} (et : pad t = sv t0 t1 t2) (hT : SpotsAt T t0 t1 t2 w) :
    Calls Try.prog 60 #[pad x, .pointer (some ⟨B, 0, none⟩), .pointer (some ⟨T, 0, none⟩)] w fun e w' => e = .returned (.int .i64 (dist t x)) ∧ Below w.heap.size w w' := by
  obtain ⟨x0, x1, x2, ex⟩ : ∃ x0 x1 x2, pad x = sv x0 x1 x2 := ⟨_, _, _, rfl⟩
  have HD := Lib.hid (fun W : World => dist_pad hk1 hk3 s0 s1 s2 C n c ht hx W)
  rw [et, ex] at HD
  rw [ex]
  obtain ⟨d, hd⟩ : ∃ d, dist t x = d := ⟨_, rfl⟩
  rw [hd] at HD ⊢
  have hb1 : Below w.heap.size w (w.alloc (Obj.cells #[Value.int IntKind.i64 x0, Value.int IntKind.i64 x1, Value.int IntKind.i64 x2] 52)) := (Below.refl _ w).alloc (Nat.le_refl _) _
  have hH1 := hH.of (hb1.block B hH.lt)
  have hT1 := hT.of (hb1.block T hT.lt)
  have hS1 := SpotsAt.new w x0 x1 x2
  obtain ⟨U, hU⟩ : ∃ U, w.heap.size = U := ⟨_, rfl⟩
  have HB1 := Lib.hid hb1
  clear ex et hd hb1 hH hT
  go_enter Try.func60, Try.ntmps60
  go_upto_region 1 with fail
  rw [hU] at hS1
  generalize (w.alloc (Obj.cells #[Value.int IntKind.i64 x0, Value.int IntKind.i64 x1, Value.int IntKind.i64 x2] 52)) = w1 at *
  obtain ⟨g0, g1, g2, g3, g4⟩ := hH1
  obtain ⟨q0, q1, q2, _, _, _, _⟩ := hT1
  obtain ⟨p0, p1, p2, _, _, _, _⟩ := hS1
  go_wp2_with (go_at_call 48; (with_reducible refine (HD.out _).mono ?_); rintro e w3 ⟨rfl, hb3⟩)
  go_ret
  exact ⟨rfl, HB1.out.trans (hb3.mono HB1.out.size)⟩
theorem grown_lead {W W1 w' : World} {V : Nat} (h0 : Below W.heap.size W W1) (h : W1.grownBy w' (some V)) : W.grownBy w' (some V) :=
  ⟨h.os.trans h0.os, h.tape.trans h0.tape, h.output.trans h0.output, Nat.le_trans h0.size h.size, fun k hk hne => (h.block k (Nat.lt_of_lt_of_le hk h0.size) hne).trans (h0.block k hk)⟩
set_option maxHeartbeats 8000000 in
set_option maxRecDepth 100000 in
theorem ser_c {k N : Nat} (hk1 : 1 ≤ k) (hk3 : k ≤ 3) (s0 s1 s2 : Int) (C : Option Addr) (n c : Nat) (B V b : Nat) (m : List Int → Int) (f : Int) (hf : Fl f) (hm : ∀ x, Pos k x → 0 ≤ m x ∧ m x ≤ 100000) (hm2 : ∀ x, Pos k x → 0 ≤ nxt k m f x ∧ nxt k m f x ≤ 100000) (hN : N ≤ 30000) {s : List Int} (hs : Pos k s) (W : World)
    (hH : HallAt B (k : Int) s0 s1 s2 (.slice C n c) W) (hBV : B ≠ V) (hV : W.cell? ⟨V, 0, none⟩ = some (.map (some b))) (hVf : W.frozen? ⟨V, 0, none⟩ = false) (hw : Wk W b k N m (fun _ => True)) :
    Calls Try.prog 58 #[pad s, .int .i64 f, .pointer (some ⟨B, 0, none⟩), .pointer (some ⟨V, 0, none⟩)] W fun e w' => e = .returned (pad (chp (fun x => nxt k m f x + dist s x) f (allF k 0)).1) ∧ W.grownBy w' (some V) ∧ ∃ b', w'.cell? ⟨V, 0, none⟩ = some (.map (some b')) ∧ w'.frozen? ⟨V, 0, none⟩ = false ∧ Wk w' b' k N (nxt k m f) (fun _ => True) := by
  obtain ⟨x0, x1, x2, ex⟩ : ∃ x0 x1 x2, pad s = sv x0 x1 x2 := ⟨_, _, _, rfl⟩
  obtain ⟨X, hX⟩ : ∃ X, (chp (fun x => nxt k m f x + dist s x) f (allF k 0)).1 = X := ⟨_, rfl⟩
  obtain ⟨y0, y1, y2, ey⟩ : ∃ x0 x1 x2, pad X = sv x0 x1 x2 := ⟨_, _, _, rfl⟩
  have HAF := Lib.hid (fun W hW => after_c hk1 hk3 s0 s1 s2 C n c b m f hf hm hN W hW)
  have HCH := Lib.hid (fun b' W hW HF => cheapest_c (N := N) hk1 hk3 s0 s1 s2 C n c b' (nxt k m f) (dist s) f 60 #[.pointer (some ⟨B, 0, none⟩), .pointer (some ⟨W.heap.size, 0, none⟩)] (enters_mk Try.func60 (by kernel_rfl) rfl) hm2 (fun x hx => by have := dist_bd hk3 hs hx; omega) W hW HF)
  have HFR := Lib.hid (fun x W (hx : Pos k x) h1 T h2 => from2_c hk1 hk3 s0 s1 s2 C n c B T hs hx W h1 ex h2)
  have HCX : Hid (∀ b' T w3, Wk w3 b' k N (nxt k m f) (fun _ => True) → HallAt B (k : Int) s0 s1 s2 (.slice C n c) w3 → SpotsAt T x0 x1 x2 w3 → Calls Try.prog 59 #[hv k s0 s1 s2 (.slice C n c), .map (some b'), .int .i64 f, .func (.func 60) #[] #[.pointer (some ⟨B, 0, none⟩), .pointer (some ⟨T, 0, none⟩)]] w3 fun e w' => e = .returned (sv y0 y1 y2) ∧ Below w3.heap.size w3 w') := by
    refine Lib.hid (fun b' T w3 hW h1 h2 => ?_)
    have h9 := cheapest_c (N := N) hk1 hk3 s0 s1 s2 C n c b' (nxt k m f) (dist s) f 60 #[.pointer (some ⟨B, 0, none⟩), .pointer (some ⟨T, 0, none⟩)] (enters_mk Try.func60 (by kernel_rfl) rfl) hm2 (fun x hx => by have := dist_bd hk3 hs hx; omega) w3 hW (fun x W' hx hb => from2_c hk1 hk3 s0 s1 s2 C n c B T hs hx W' (h1.of (hb.block B h1.lt)) ex (h2.of (hb.block T h2.lt)))
    rw [hX, ey] at h9
    exact h9
  clear HCH HFR
  rw [hX, ey, ex]
  have hVl := World.block_lt_of_cell? W _ hV
  have hVl' : V < W.heap.size := hVl
  obtain ⟨T, hT⟩ : ∃ T, W.heap.size = T := ⟨_, rfl⟩
  have hg1 : Below W.heap.size W ((W.alloc (Obj.cells #[Value.int IntKind.i64 x0, Value.int IntKind.i64 x1, Value.int IntKind.i64 x2] 52)).alloc (Obj.cells #[Value.int IntKind.i64 0, Value.int IntKind.i64 0, Value.int IntKind.i64 0] 52)) := ((Below.refl _ W).alloc (Nat.le_refl _) _).alloc (by simp) _
  have hS0 := (SpotsAt.new W x0 x1 x2).of ((World.grownBy_alloc (W.alloc (Obj.cells #[Value.int IntKind.i64 x0, Value.int IntKind.i64 x1, Value.int IntKind.i64 x2] 52)) (Obj.cells #[Value.int IntKind.i64 0, Value.int IntKind.i64 0, Value.int IntKind.i64 0] 52) none).block _ (by simp) (by simp))
  have hS1 := SpotsAt.new (W.alloc (Obj.cells #[Value.int IntKind.i64 x0, Value.int IntKind.i64 x1, Value.int IntKind.i64 x2] 52)) 0 0 0
  have hz1 : ((W.alloc (Obj.cells #[Value.int IntKind.i64 x0, Value.int IntKind.i64 x1, Value.int IntKind.i64 x2] 52)).alloc (Obj.cells #[Value.int IntKind.i64 0, Value.int IntKind.i64 0, Value.int IntKind.i64 0] 52)).heap.size = T + 2 := by simp [hT]
  simp only [World.size_alloc] at hS1
  rw [hT] at hS0 hS1
  have hH1 := hH.of (hg1.block B hH.lt)
  have hV1 := (hg1.cell (p := ⟨V, 0, none⟩) hVl).trans hV
  have hVf1 := (hg1.frozen (p := ⟨V, 0, none⟩) hVl).trans hVf
  have hw1 := hw.of (hg1.block b hw.lt)
  have HG1 := Lib.hid hg1
  have HT := Lib.hid hT
  have HEX := Lib.hid ex
  have hVT : V < T := by omega
  clear hX ex ey hm hm2 hf hs hH hV hVf hw hVl hVl' hg1
  go_enter Try.func58, Try.ntmps58
  go_upto_region 1 with fail
  clear hT
  generalize ((W.alloc (Obj.cells #[Value.int IntKind.i64 x0, Value.int IntKind.i64 x1, Value.int IntKind.i64 x2] 52)).alloc (Obj.cells #[Value.int IntKind.i64 0, Value.int IntKind.i64 0, Value.int IntKind.i64 0] 52)) = W1 at *
  have HH1 := Lib.hid hH1
  have HS0 := Lib.hid hS0
  have HS1 := Lib.hid hS1
  have HW1 := Lib.hid hw1
  have HV1 := Lib.hid (And.intro hV1 hVf1)
  have HZ1 := Lib.hid hz1
  obtain ⟨g0, g1, g2, g3, g4⟩ := hH1
  clear hS0 hS1 hw1 hz1
  have HX1 : Hid (∀ w', Below W1.heap.size W1 w' → w'.cell? ⟨V, 0, none⟩ = some (.map (some b)) ∧ w'.frozen? ⟨V, 0, none⟩ = false) := Lib.hid (fun w' h =>
    ⟨(h.cell (World.block_lt_of_cell? W1 _ HV1.out.1)).trans HV1.out.1, (h.frozen (p := ⟨V, 0, none⟩) (by rw [HZ1.out]; show V < _; omega)).trans HV1.out.2⟩)
  go_upto_region 2 with (go_at_call 53; (with_reducible refine (HAF.out _ HW1.out).mono ?_); rintro e w2 ⟨b2, rfl, hb2, hW2, hB2⟩; obtain ⟨hV2, hVf2⟩ := HX1.out w2 hB2)
  have hg3 := grownBy_setCellAt w2 ⟨V, 0, none⟩ (.map (some b2))
  have hc3 : (w2.setCell ⟨V, 0, none⟩ (.map (some b2))).cell? ⟨V, 0, none⟩ = some (.map (some b2)) := by simp [go_sem, hV2]
  have hcf3 : (w2.setCell ⟨V, 0, none⟩ (.map (some b2))).frozen? ⟨V, 0, none⟩ = false := by rw [World.frozen?_setCell]; exact hVf2
  have hz2 : T + 2 ≤ w2.heap.size := by have := hB2.size; have := HZ1.out; omega
  have hVb : V < b2 := by have := HZ1.out; omega
  have hTb : T + 1 < b2 := by have := HZ1.out; omega
  have hW3 := hW2.kept hg3 (fun e => by injection e with e; have e : b2 = V := e; omega)
  have hH3 := (HH1.out.of (hB2.block B HH1.out.lt)).of (hg3.block B (by have := HH1.out.lt; have := hB2.size; omega) (fun e => hBV (by injection e)))
  have hT3 := (HS0.out.of (hB2.block T HS0.out.lt)).of (hg3.block T (by omega) (fun e => by injection e with e; have e : T = V := e; omega))
  have hU3 := (HS1.out.of (hB2.block (T + 1) HS1.out.lt)).of (hg3.block (T + 1) (by omega) (fun e => by injection e with e; have e : T + 1 = V := e; omega))
  have hz3 : T + 2 ≤ (w2.setCell ⟨V, 0, none⟩ (.map (some b2))).heap.size := Nat.le_trans hz2 hg3.size
  have HG3 : Hid (W.grownBy (w2.setCell ⟨V, 0, none⟩ (.map (some b2))) (some V)) := Lib.hid (grown_lead (HG1.out.trans (hB2.mono HG1.out.size)) hg3)
  have HCY := Lib.hid (HCX.out b2 T _ hW3 hH3 hT3)
  generalize (w2.setCell ⟨V, 0, none⟩ (.map (some b2))) = w3 at *
  have HW3 := Lib.hid hW3
  have HU3 := Lib.hid hU3
  have HC3 := Lib.hid (And.intro hc3 hcf3)
  clear hV1 hVf1 g0 g1 g2 g3 g4 hg3 hB2 hW2 hb2 hV2 hVf2 hW3 hU3 hcf3 hT3
  obtain ⟨g0, g1, g2, g3, g4⟩ := hH3
  have HX3 : Hid (∀ w', Below w3.heap.size w3 w' → SpotsAt (T + 1) 0 0 0 w') := Lib.hid (fun w' h => HU3.out.of (h.block _ HU3.out.lt))
  go_wp2_with (go_at_call 59; (with_reducible refine HCY.out.mono ?_); rintro e w4 ⟨rfl, hB4⟩; obtain ⟨q0, q1, q2, q3, q4, q5, _⟩ := HX3.out w4 hB4)
  have hg5 := grown_put (B := T + 1) (W := w4) (.int .i64 y0) (.int .i64 y1) (.int .i64 y2)
  have hN5 := (HX3.out w4 hB4).put y0 y1 y2
  have hc5 : (((w4.setCell ⟨T + 1, 0, none⟩ (.int .i64 y0)).setCell ⟨T + 1, 1, none⟩ (.int .i64 y1)).setCell ⟨T + 1, 2, none⟩ (.int .i64 y2)).cell? ⟨V, 0, none⟩ = some (.map (some b2)) :=
    (World.cell?_of_block (hg5.block V (by have := hB4.size; omega) (fun e => by injection e with e; omega))).trans ((hB4.cell (World.block_lt_of_cell? w3 _ HC3.out.1)).trans HC3.out.1)
  have hf5 : (((w4.setCell ⟨T + 1, 0, none⟩ (.int .i64 y0)).setCell ⟨T + 1, 1, none⟩ (.int .i64 y1)).setCell ⟨T + 1, 2, none⟩ (.int .i64 y2)).frozen? ⟨V, 0, none⟩ = false :=
    (World.frozen?_of_block (hg5.block V (by have := hB4.size; omega) (fun e => by injection e with e; omega))).trans ((hB4.frozen (p := ⟨V, 0, none⟩) (World.block_lt_of_cell? w3 _ HC3.out.1)).trans HC3.out.2)
  have hW5 := (HW3.out.of (hB4.block b2 HW3.out.lt)).kept hg5 (fun e => by injection e with e; have e : b2 = T + 1 := e; omega)
  have hG5 : W.grownBy (((w4.setCell ⟨T + 1, 0, none⟩ (.int .i64 y0)).setCell ⟨T + 1, 1, none⟩ (.int .i64 y1)).setCell ⟨T + 1, 2, none⟩ (.int .i64 y2)) (some V) := by
    have h3 := HG3.out
    refine ⟨hg5.os.trans (hB4.os.trans h3.os), hg5.tape.trans (hB4.tape.trans h3.tape), hg5.output.trans (hB4.output.trans h3.output), Nat.le_trans h3.size (Nat.le_trans hB4.size hg5.size), fun j hj hne => ?_⟩
    have hjT : j < T := by rw [← HT.out]; exact hj
    exact (hg5.block j (by have := hB4.size; omega) (fun e => by injection e with e; omega)).trans ((hB4.block j (by omega)).trans (h3.block j hj hne))
  have HRES := Lib.hid (And.intro hG5 (And.intro hc5 (And.intro hf5 hW5)))
  obtain ⟨r0, r1, r2, _, _, _, _⟩ := hN5
  clear hg5 hc5 hf5 hW5 hG5
  refine bodyPost_ret (v := sv y0 y1 y2) (by simp [results, Try.results58, go_sem, r0, r1, r2]) rfl ⟨rfl, HRES.out.1, b2, HRES.out.2.1, HRES.out.2.2.1, HRES.out.2.2.2⟩
end Go.Proofs.Ytakbijpcfnipoaa.A

set_option linter.unusedVariables false
set_option linter.unusedSimpArgs false
namespace Go.Proofs.Ytakbijpcfnipoaa.A
open Go.RowKit Go.Proofs.YtakbijpcfnipoaaW.PrintWords Go.Proofs.YtakbijpcfnipoaaW.PrintLast Go.Proofs.YtakbijpcfnipoaaW.PrintMore
open Go.Proofs.Ytakbijpcfnipoaa.PA Go.Proofs.Ytakbijpcfnipoaa.Lf
def fsF (k : Nat) : (List Int → Int) → List Int → List Int → List (List Int)
  | _, _, [] => []
  | w, s, f :: c => (chp (fun x => nxt k w f x + dist s x) f (allF k 0)).1 :: fsF k (nxt k w f) (chp (fun x => nxt k w f x + dist s x) f (allF k 0)).1 c
theorem fsF_len (k : Nat) : ∀ (c : List Int) (w : List Int → Int) (s : List Int), (fsF k w s c).length = c.length
  | [], _, _ => rfl
  | f :: c, w, s => by simp [fsF, fsF_len k c]
def fsP (k : Nat) (s0 c : List Int) : Nat → List Int
  | 0 => s0
  | i + 1 => (fsF k (dist s0) s0 c).getD i []
theorem fsF_at (k : Nat) : ∀ (c : List Int) (w : List Int → Int) (s : List Int) (i : Nat), i < c.length → (fsF k w s c).getD i [] = (chp (fun x => works k w (c.take (i + 1)) x + dist (match i with | 0 => s | j + 1 => (fsF k w s c).getD j []) x) (c.getD i 0) (allF k 0)).1
  | [], _, _, i, h => absurd h (Nat.not_lt_zero _)
  | f :: c, w, s, 0, _ => by simp [fsF, works]
  | f :: c, w, s, i + 1, h => by
    have ih := fsF_at k c (nxt k w f) (chp (fun x => nxt k w f x + dist s x) f (allF k 0)).1 i (Nat.lt_of_succ_lt_succ h)
    show (fsF k (nxt k w f) (chp (fun x => nxt k w f x + dist s x) f (allF k 0)).1 c).getD i [] = _
    rw [ih]
    cases i with
    | zero => rfl
    | succ j => rfl
theorem fsP_step (k : Nat) (s0 c : List Int) {i : Nat} (h : i < c.length) : fsP k s0 c (i + 1) = (chp (fun x => works k (dist s0) (c.take (i + 1)) x + dist (fsP k s0 c i) x) (c.getD i 0) (allF k 0)).1 := by
  show (fsF k (dist s0) s0 c).getD i [] = _
  rw [fsF_at k c (dist s0) s0 i h]
  cases i with
  | zero => rfl
  | succ j => rfl
theorem outs_fs (k : Nat) (s0 c : List Int) : outs (fsP k s0 c) c.length = fsF k (dist s0) s0 c := by
  unfold outs
  refine List.ext_getElem (by rw [List.length_map, List.length_range, fsF_len]) (fun i h1 h2 => ?_)
  rw [List.getElem_map, List.getElem_range]
  show (fsF k (dist s0) s0 c).getD i [] = _
  rw [List.getD_eq_getElem?_getD, List.getElem?_eq_getElem h2]
  rfl
theorem costs_cong {p q : Nat → List Int} : ∀ (n : Nat), (∀ i, i ≤ n → p i = q i) → costs p n = costs q n
  | 0, _ => rfl
  | n + 1, h => by
    rw [costs, costs, costs_cong n (fun i hi => h i (by omega)), h n (by omega), h (n + 1) (by omega)]
theorem costs_fs (l : List (List Int)) (s : List Int) : costs (fun i => match i with | 0 => s | j + 1 => l.getD j []) l.length = cost s l := by
  rw [← costs_pR l s]
  exact costs_cong _ (fun i _ => by cases i <;> rfl)
theorem costs_fsP (k : Nat) (s0 c : List Int) : costs (fsP k s0 c) c.length = cost s0 (fsF k (dist s0) s0 c) := by
  rw [← costs_fs (fsF k (dist s0) s0 c) s0, fsF_len]
  exact costs_cong _ (fun i _ => by cases i <;> rfl)
theorem works_bd0 {k : Nat} (hk1 : 1 ≤ k) (hk3 : k ≤ 3) {s c : List Int} (hs : Pos k s) (hc : Fls c) (h40 : c.length ≤ 40) (i : Nat) : ∀ x, Pos k x → 0 ≤ works k (dist s) (c.take i) x ∧ works k (dist s) (c.take i) x ≤ 100000 := fun x hx => by
  have h9 := works_bd hk1 hs hk3 (c.take i) (dist s) 90 (fun y hy => hc y (List.mem_of_mem_take hy)) (first_lip k hs) (fun y hy => dist_bd hk3 hs hy) x hx
  have h8 : (c.take i).length ≤ 40 := by rw [List.length_take]; omega
  omega
theorem fsP_pos {k : Nat} (hk1 : 1 ≤ k) (hk3 : k ≤ 3) {s c : List Int} (hs : Pos k s) (hc : Fls c) (h40 : c.length ≤ 40) : ∀ i, i ≤ c.length → Pos k (fsP k s c i)
  | 0, _ => hs
  | i + 1, h => by
    have hil : i < c.length := h
    have hf : Fl (c.getD i 0) := by rw [List.getD_eq_getElem?_getD, List.getElem?_eq_getElem hil]; exact hc _ (List.getElem_mem hil)
    rw [fsP_step k s c hil]
    exact (chp_all hk1 _ hf.1 hf.2 (fun x hx => by have := (works_bd0 hk1 hk3 hs hc h40 (i + 1) x hx).1; have := dist_nonneg (fsP k s c i) x; omega)).1
theorem works_next {k : Nat} {s c : List Int} {i : Nat} (h : i < c.length) : nxt k (works k (dist s) (c.take i)) (c.getD i 0) = works k (dist s) (c.take (i + 1)) := by
  rw [List.take_add_one, List.getElem?_eq_getElem h, ← works_snoc]
  simp only [Option.toList]
  rw [List.getD_eq_getElem?_getD, List.getElem?_eq_getElem h]
  rfl
def FsI (k V H : Nat) (s0 s1 s2 : Int) (sl : Value) (s c : List Int) (i : Nat) (W : World) : Prop :=
  (∃ b, W.cell? ⟨V, 0, none⟩ = some (.map (some b)) ∧ W.frozen? ⟨V, 0, none⟩ = false ∧ Wk W b k 29791 (works k (dist s) (c.take i)) (fun _ => True)) ∧ HallAt H (k : Int) s0 s1 s2 sl W
set_option maxHeartbeats 8000000 in
set_option maxRecDepth 100000 in
theorem Foresee_c (A : Option Addr) (ca : Nat) (s : List Int) (C : Option Addr) (cc : Nat) (c : List Int) (w : World) (hr : Kd.C (Kd.int .i64) w A s.length s) (hc : Kd.C (Kd.int .i64) w C c.length c) (hh : hallB s c = true) :
    Calls Try.prog 37 #[.slice A s.length ca, .slice C c.length cc] w fun e w' => ∃ v, e = .returned (.tuple #[v, .int .i64 (cost s (fsF s.length (dist s) s c)), .int .i64 0]) ∧ Kd.S (Kd.slice 3 (Kd.int .i64)) 22 w' w.heap.size (fun _ => True) v (fsF s.length (dist s) s c) ∧ Below w.heap.size w w' := by
  obtain ⟨hp, hcb⟩ : posB s = true ∧ callB c = true := by simpa [hallB] using hh
  obtain ⟨hk1, hk3, hs⟩ := posB_iff.1 hp
  obtain ⟨h40, hfl⟩ := callB_iff.1 hcb
  have hpos := fsP_pos hk1 hk3 hs hfl h40
  have HALL := Lib.hid (hall_c A ca s C cc c w hr hc)
  rw [hh] at HALL
  simp only [if_true] at HALL
  obtain ⟨s0, e0⟩ : ∃ x, s.getD 0 0 = x := ⟨_, rfl⟩
  obtain ⟨s1, e1⟩ : ∃ x, s.getD 1 0 = x := ⟨_, rfl⟩
  obtain ⟨s2, e2⟩ : ∃ x, s.getD 2 0 = x := ⟨_, rfl⟩
  have es : pad s = sv s0 s1 s2 := by rw [← e0, ← e1, ← e2]; rfl
  rw [e0, e1, e2] at HALL
  have HFI := Lib.hid (fun W : World => first_c hk1 hk3 s0 s1 s2 C c.length cc s hs es W)
  have HS : Hid (∀ H V b W, H ≠ V → V < W.heap.size → Below w.heap.size w W → W.cell? ⟨V, 0, none⟩ = some (.map (some b)) → W.frozen? ⟨V, 0, none⟩ = false → Wk W b s.length 29791 (dist s) (fun _ => True) → HallAt H (s.length : Int) s0 s1 s2 (.slice C c.length cc) W → w.heap.size ≤ V →
      Calls Try.prog 56 #[hv (s.length : Int) s0 s1 s2 (.slice C c.length cc), .func (.func 58) #[] #[.pointer (some ⟨H, 0, none⟩), .pointer (some ⟨V, 0, none⟩)]] W fun e w' => ∃ v, e = .returned (.tuple #[v, .int .i64 (cost s (fsF s.length (dist s) s c))]) ∧ Kd.S (Kd.slice 3 (Kd.int .i64)) 22 w' W.heap.size (fun _ => True) v (fsF s.length (dist s) s c) ∧ W.grownBy w' (some V)) := by
    refine Lib.hid (fun H V b W hHV hVl hW hV hVf hWk hHH hVw => ?_)
    have h := sched_c hk1 hk3 s0 s1 s2 C c.length cc h40 (fsP s.length s c) hpos es (fun i => c.getD i 0)
      (fun i hi => by rw [List.getD_eq_getElem?_getD, List.getElem?_eq_getElem hi]; exact hfl _ (List.getElem_mem hi))
      58 #[] #[.pointer (some ⟨H, 0, none⟩), .pointer (some ⟨V, 0, none⟩)] (enters_mk Try.func58 (by kernel_rfl) rfl) (some V) (FsI s.length V H s0 s1 s2 (.slice C c.length cc) s c) W ?hca ?hse (fun j hj => by injection hj with hj; omega) ?hI ⟨⟨b, hV, hVf, hWk⟩, hHH⟩
    case hca =>
      intro h0
      obtain ⟨ad, e, hm⟩ := mem1 hc h0
      refine ⟨ad, e, fun i X hi hX => ?_⟩
      have h1 := hm i _ (List.getElem?_eq_getElem hi)
      have h2 : (W.cell? (ad.add i)) = some (.int .i64 c[i]) := (hW.cell h1.2).trans h1.1
      show X.cell? (ad.add i) = some (.int .i64 (c.getD i 0))
      rw [List.getD_eq_getElem?_getD, List.getElem?_eq_getElem hi]
      exact hX.cell h2 (by have := h1.2; intro e; injection e with e; omega)
    case hse =>
      intro i X hi hX hI
      obtain ⟨⟨b', q1, q2, q3⟩, q4⟩ := hI
      have hf : Fl (c.getD i 0) := by rw [List.getD_eq_getElem?_getD, List.getElem?_eq_getElem hi]; exact hfl _ (List.getElem_mem hi)
      have hne : H ≠ V := hHV
      have hb2 := works_bd0 hk1 hk3 hs hfl h40 (i + 1)
      rw [← works_next hi] at hb2
      refine (ser_c hk1 hk3 s0 s1 s2 C c.length cc H V b' (works s.length (dist s) (c.take i)) (c.getD i 0) hf (works_bd0 hk1 hk3 hs hfl h40 i) hb2 (N := 29791) (by omega) (hpos i (by omega)) X q4 hne q1 q2 q3).mono ?_
      rintro e w' ⟨rfl, hg, b2, r1, r2, r3⟩
      rw [works_next hi] at r3 ⊢
      refine ⟨by rw [fsP_step s.length s c hi], hg, ⟨b2, r1, r2, r3⟩, q4.of (hg.block H q4.lt (fun e => hne (by injection e)))⟩
    case hI =>
      rintro i X Y r ⟨⟨b', q1, q2, q3⟩, q4⟩ hg hr
      have hk : ∀ j, r = some j → j ≠ V ∧ j ≠ H ∧ j ≠ b' := fun j hj => by
        obtain ⟨g1, cs, e, fr, g2⟩ := hr j hj
        refine ⟨by omega, fun e => ?_, fun e => ?_⟩
        · have := hHH.lt; omega
        · obtain ⟨D, ⟨es, clock, hb', _⟩, _⟩ := q3
          subst e
          rw [hb'] at g2
          cases g2
      have kp : ∀ j, j < X.heap.size → (j = V ∨ j = H ∨ j = b') → Y.heap[j]? = X.heap[j]? := fun j hj h => hg.block j hj (fun e => by have := hk j e.symm; omega)
      have hVX := World.block_lt_of_cell? X _ q1
      refine ⟨⟨b', (World.cell?_of_block (kp V hVX (.inl rfl))).trans q1, (World.frozen?_of_block (kp V hVX (.inl rfl))).trans q2, q3.of (kp b' q3.lt (.inr (.inr rfl)))⟩, q4.of (kp H q4.lt (.inr (.inl rfl)))⟩
    refine Calls.mono h ?_
    rintro e w' ⟨v, rfl, hS, hG, _⟩
    rw [outs_fs] at hS
    rw [costs_fsP]
    exact ⟨v, rfl, hS, hG⟩
  obtain ⟨n, hn⟩ : ∃ n, s.length = n := ⟨_, rfl⟩
  obtain ⟨m, hm⟩ : ∃ m, c.length = m := ⟨_, rfl⟩
  obtain ⟨R, hR⟩ : ∃ R, fsF s.length (dist s) s c = R := ⟨_, rfl⟩
  obtain ⟨q, hq⟩ : ∃ q, cost s R = q := ⟨_, rfl⟩
  rw [hR, hq, hn, hm] at HS
  rw [hn, hm] at HALL HFI
  rw [hR, hq, hn, hm]
  clear hR hq hn hm hpos e0 e1 e2 es hs hfl h40 hk1 hk3 hp hcb hh hr hc
  go_enter Try.func37, Try.ntmps37
  go_upto_region 2 with (go_at_call 44; (with_reducible refine HALL.out.mono ?_); rintro e w2 ⟨rfl, hb⟩)
  have hB2 : Below w.heap.size w (w2.alloc (Obj.cells #[Value.int IntKind.i64 n, Value.int IntKind.i64 s0, Value.int IntKind.i64 s1, Value.int IntKind.i64 s2, Value.slice C m cc] 54)) := hb.alloc hb.size _
  have hH : HallAt w2.heap.size (n : Int) s0 s1 s2 (.slice C m cc) (w2.alloc (Obj.cells #[Value.int IntKind.i64 n, Value.int IntKind.i64 s0, Value.int IntKind.i64 s1, Value.int IntKind.i64 s2, Value.slice C m cc] 54)) := ⟨by simp [go_sem], by simp [go_sem], by simp [go_sem], by simp [go_sem], by simp [go_sem]⟩
  obtain ⟨T, hT⟩ : ∃ T, w2.heap.size = T := ⟨_, rfl⟩
  have hTw : w.heap.size ≤ T := by have := hb.size; omega
  rw [hT] at hH ⊢
  generalize (w2.alloc (Obj.cells #[Value.int IntKind.i64 n, Value.int IntKind.i64 s0, Value.int IntKind.i64 s1, Value.int IntKind.i64 s2, Value.slice C m cc] 54)) = w3 at *
  have HB2 := Lib.hid hB2
  have HH := Lib.hid hH
  obtain ⟨g0, g1, g2, g3, g4⟩ := hH
  clear hb hT hB2
  go_upto_region 5 with (go_at_call 52; (with_reducible refine (HFI.out _).mono ?_); rintro e w6 ⟨b0, rfl, hb0, hW6, hb6⟩)
  clear g0 g1 g2 g3 g4
  have hga : w6.grownBy (w6.alloc (Obj.cells #[Value.map (some b0)] 65)) none := World.grownBy_alloc _ _ _
  have hV : (w6.alloc (Obj.cells #[Value.map (some b0)] 65)).cell? ⟨w6.heap.size, 0, none⟩ = some (.map (some b0)) := by simp [go_sem]
  have hVf : (w6.alloc (Obj.cells #[Value.map (some b0)] 65)).frozen? ⟨w6.heap.size, 0, none⟩ = false := by simp [go_sem]
  have hz : (w6.alloc (Obj.cells #[Value.map (some b0)] 65)).heap.size = w6.heap.size + 1 := by simp
  have hHH := (HH.out.of (hb6.block T HH.out.lt)).of (hga.block T (by have := HH.out.lt; have := hb6.size; omega) (by simp))
  have hWW := hW6.kept hga (by simp)
  have hBB := (HB2.out.trans (hb6.mono HB2.out.size)).grown hga (by have := HB2.out.size; have := hb6.size; omega) (fun j e => by cases e)
  have hTV : T ≠ w6.heap.size := by have := HH.out.lt; have := hb6.size; omega
  have hwV : w.heap.size ≤ w6.heap.size := by have := HB2.out.size; have := hb6.size; omega
  obtain ⟨V, hVe⟩ : ∃ V, w6.heap.size = V := ⟨_, rfl⟩
  rw [hVe] at hV hVf hz hTV hwV ⊢
  generalize (w6.alloc (Obj.cells #[Value.map (some b0)] 65)) = w7 at *
  have HSQ := Lib.hid (HS.out T V b0 w7 hTV (by omega) hBB hV hVf hWW hHH hwV)
  have HBB := Lib.hid hBB
  have HWV := Lib.hid hwV
  obtain ⟨g0, g1, g2, g3, g4⟩ := hHH
  clear hga hV hVf hz hWW hBB hTV hwV hVe hW6 hb6 hb0
  go_wp2_with (go_at_call 56; (with_reducible refine HSQ.out.mono ?_); rintro e w8 ⟨v, rfl, hSv, hg8⟩)
  go_ret3
  exact ⟨v, rfl, Kd.S_lower hSv HBB.out.size, HBB.out.grown hg8 HBB.out.size (fun j e => by injection e with e; have := HWV.out; omega)⟩
set_option maxHeartbeats 8000000 in
set_option maxRecDepth 100000 in
theorem Foresee_no (A : Option Addr) (ca : Nat) (s : List Int) (C : Option Addr) (cc : Nat) (c : List Int) (w : World) (hr : Kd.C (Kd.int .i64) w A s.length s) (hc : Kd.C (Kd.int .i64) w C c.length c) (hh : hallB s c = false) :
    Calls Try.prog 37 #[.slice A s.length ca, .slice C c.length cc] w fun e w' => e = .returned (.tuple #[.slice none 0 0, .int .i64 0, .int .i64 2]) ∧ Below w.heap.size w w' := by
  have HALL := Lib.hid (hall_c A ca s C cc c w hr hc)
  rw [hh] at HALL
  simp only [Bool.false_eq_true, if_false] at HALL
  clear hr hc hh
  go_enter Try.func37, Try.ntmps37
  go_wp2_with (go_at_call 44; (with_reducible refine HALL.out.mono ?_); rintro e w2 ⟨rfl, hb⟩)
  go_ret3
  exact ⟨rfl, hb.alloc hb.size _⟩
end Go.Proofs.Ytakbijpcfnipoaa.A
namespace Go.Proofs.Ytakbijpcfnipoaa.PA
open Go.RowKit Go.Proofs.YtakbijpcfnipoaaW.PrintWords Go.Proofs.YtakbijpcfnipoaaW.PrintLast Go.Proofs.YtakbijpcfnipoaaW.PrintMore
open Go.Proofs.Ytakbijpcfnipoaa.A Go.Proofs.Ytakbijpcfnipoaa.Lf
def lifts_Foresee.f (l0 : List Int) (l1 : List Int) : Option ((List (List Int)) × Int × Int) := if hallB l0 l1 then some (fsF l0.length (dist l0) l0 l1, cost l0 (fsF l0.length (dist l0) l0 l1), 0) else some ([], 0, 2)
theorem lifts_Foresee.calls (A0 : Option Addr) (c0 : Nat) (l0 : List Int) (A1 : Option Addr) (c1 : Nat) (l1 : List Int) (r1 : List (List Int)) (r2 : Int) (r3 : Int) (w : World) (hr0 : Kd.C (Kd.int .i64) w A0 l0.length l0) (_hc0 : l0.length ≤ c0) (hr1 : Kd.C (Kd.int .i64) w A1 l1.length l1) (_hc1 : l1.length ≤ c1) (h : lifts_Foresee.f l0 l1 = some (r1, r2, r3)) :
    Calls Try.prog 37 #[.slice A0 l0.length c0, .slice A1 l1.length c1] w fun e w' => ∃ v0_ : Value, e = .returned (.tuple #[v0_, .int .i64 r2, .int .i64 r3]) ∧ Kd.S (Kd.slice 3 (Kd.int .i64)) 22 w' w.heap.size (fun _ => True) v0_ r1 ∧ Below w.heap.size w w' := by
  unfold lifts_Foresee.f at h
  cases hh : hallB l0 l1 with
  | false =>
    rw [hh] at h
    simp only [Bool.false_eq_true, if_false, Option.some.injEq, Prod.mk.injEq] at h
    obtain ⟨rfl, rfl, rfl⟩ := h
    exact (Foresee_no A0 c0 l0 A1 c1 l1 w hr0 hr1 hh).mono fun e w' ⟨he, hb⟩ => ⟨_, he, Kd.S_nil _ _ _ _ _, hb⟩
  | true =>
    rw [hh] at h
    simp only [if_true, Option.some.injEq, Prod.mk.injEq] at h
    obtain ⟨rfl, rfl, rfl⟩ := h
    exact Foresee_c A0 c0 l0 A1 c1 l1 w hr0 hr1 hh
end Go.Proofs.Ytakbijpcfnipoaa.PA

set_option linter.unusedVariables false
set_option linter.unusedSimpArgs false
namespace Go.Proofs.Ytakbijpcfnipoaa.A
open Go.RowKit Go.Proofs.YtakbijpcfnipoaaW.PrintWords Go.Proofs.YtakbijpcfnipoaaW.PrintLast Go.Proofs.YtakbijpcfnipoaaW.PrintMore
open Go.Proofs.Ytakbijpcfnipoaa.PA Go.Proofs.Ytakbijpcfnipoaa.Lf
theorem enters62 : Enters 62 := enters_mk Try.func62 (by kernel_rfl) rfl
set_option maxHeartbeats 8000000 in
set_option maxRecDepth 100000 in
theorem Nearest_c (A : Option Addr) (ca : Nat) (s : List Int) (C : Option Addr) (cc : Nat) (c : List Int) (w : World) (hr : Kd.C (Kd.int .i64) w A s.length s) (hc : Kd.C (Kd.int .i64) w C c.length c) (hh : hallB s c = true) :
    Calls Try.prog 42 #[.slice A s.length ca, .slice C c.length cc] w fun e w' => ∃ v, e = .returned (.tuple #[v, .int .i64 (cost s (runL near s c)), .int .i64 0]) ∧ Kd.S (Kd.slice 3 (Kd.int .i64)) 22 w' w.heap.size (fun _ => True) v (runL near s c) ∧ Below w.heap.size w w' := by
  obtain ⟨hp, hcb⟩ : posB s = true ∧ callB c = true := by simpa [hallB] using hh
  obtain ⟨hk1, hk3, hs⟩ := posB_iff.1 hp
  obtain ⟨h40, hfl⟩ := callB_iff.1 hcb
  have hst : ∀ s' f, Pos s.length s' → Fl f → Pos s.length (near s' f) := fun s' f hs hf => (near_pos hk1 hs hf).1
  have hpos := run_pos hst hs hfl
  have HALL := Lib.hid (hall_c A ca s C cc c w hr hc)
  rw [hh] at HALL
  simp only [if_true] at HALL
  obtain ⟨s0, e0⟩ : ∃ x, s.getD 0 0 = x := ⟨_, rfl⟩
  obtain ⟨s1, e1⟩ : ∃ x, s.getD 1 0 = x := ⟨_, rfl⟩
  obtain ⟨s2, e2⟩ : ∃ x, s.getD 2 0 = x := ⟨_, rfl⟩
  have hp0 : pad (pth near s c 0) = sv s0 s1 s2 := by rw [← e0, ← e1, ← e2]; rfl
  rw [e0, e1, e2] at HALL
  have HS : Hid (∀ W, Below w.heap.size w W → Calls Try.prog 56 #[hv (s.length : Int) s0 s1 s2 (.slice C c.length cc), .func (.func 62) #[hv (s.length : Int) s0 s1 s2 (.slice C c.length cc)] #[]] W fun e w' => ∃ v, e = .returned (.tuple #[v, .int .i64 (cost s (runL near s c))]) ∧ Kd.S (Kd.slice 3 (Kd.int .i64)) 22 w' W.heap.size (fun _ => True) v (runL near s c) ∧ Below W.heap.size W w') := by
    refine Lib.hid (fun W hW => ?_)
    have h := sched_c hk1 hk3 s0 s1 s2 C c.length cc h40 (pth near s c) (fun i _ => hpos i) hp0 (fun i => c.getD i 0)
      (fun i hi => by rw [List.getD_eq_getElem?_getD, List.getElem?_eq_getElem hi]; exact hfl _ (List.getElem_mem hi))
      62 #[hv (s.length : Int) s0 s1 s2 (.slice C c.length cc)] #[] enters62 none (fun _ _ => True) W ?hca ?hse (fun b hb => by cases hb) (fun _ _ _ _ _ _ _ => trivial) trivial
    case hca =>
      intro h0
      obtain ⟨ad, e, hm⟩ := mem1 hc h0
      refine ⟨ad, e, fun i X hi hX => ?_⟩
      have h1 := hm i _ (List.getElem?_eq_getElem hi)
      have h2 : (W.cell? (ad.add i)) = some (.int .i64 c[i]) := (hW.cell h1.2).trans h1.1
      show X.cell? (ad.add i) = some (.int .i64 (c.getD i 0))
      rw [List.getD_eq_getElem?_getD, List.getElem?_eq_getElem hi]
      exact hX.cell h2 (by simp)
    case hse =>
      intro i X hi hX _
      rw [pth_succ near s hi]
      have hf : Fl (c.getD i 0) := by rw [List.getD_eq_getElem?_getD, List.getElem?_eq_getElem hi]; exact hfl _ (List.getElem_mem hi)
      exact (near_c hk1 hk3 s0 s1 s2 C c.length cc (hpos i) (c.getD i 0) hf X).mono fun e w' ⟨he, hb⟩ => ⟨he, grown_of hb, trivial⟩
    refine Calls.mono h ?_
    rintro e w' ⟨v, rfl, hS, hG, _⟩
    rw [outs_pth] at hS
    rw [costs_pth]
    exact ⟨v, rfl, hS, ⟨hG.os, hG.tape, hG.output, hG.size, fun k hk => hG.block k hk (by simp)⟩⟩
  obtain ⟨n, hn⟩ : ∃ n, s.length = n := ⟨_, rfl⟩
  obtain ⟨m, hm⟩ : ∃ m, c.length = m := ⟨_, rfl⟩
  obtain ⟨R, hR⟩ : ∃ R, runL near s c = R := ⟨_, rfl⟩
  obtain ⟨q, hq⟩ : ∃ q, cost s R = q := ⟨_, rfl⟩
  rw [hR, hq, hn, hm] at HS
  rw [hn, hm] at HALL
  rw [hR, hq, hn, hm]
  clear hR hq hn hm hst hpos hp0 e0 e1 e2 hs hfl h40 hk1 hk3 hp hcb hh hr hc
  go_enter Try.func42, Try.ntmps42
  go_upto_region 2 with (go_at_call 44; (with_reducible refine HALL.out.mono ?_); rintro e w2 ⟨rfl, hb⟩)
  have hB2 : Below w.heap.size w (w2.alloc (Obj.cells #[Value.int IntKind.i64 n, Value.int IntKind.i64 s0, Value.int IntKind.i64 s1, Value.int IntKind.i64 s2, Value.slice C m cc] 54)) := hb.alloc hb.size _
  have c0 : (w2.alloc (Obj.cells #[Value.int IntKind.i64 n, Value.int IntKind.i64 s0, Value.int IntKind.i64 s1, Value.int IntKind.i64 s2, Value.slice C m cc] 54)).cell? ⟨w2.heap.size, 0, none⟩ = some (.int .i64 n) := by simp [go_sem]
  have c1 : (w2.alloc (Obj.cells #[Value.int IntKind.i64 n, Value.int IntKind.i64 s0, Value.int IntKind.i64 s1, Value.int IntKind.i64 s2, Value.slice C m cc] 54)).cell? ⟨w2.heap.size, 1, none⟩ = some (.int .i64 s0) := by simp [go_sem]
  have c2 : (w2.alloc (Obj.cells #[Value.int IntKind.i64 n, Value.int IntKind.i64 s0, Value.int IntKind.i64 s1, Value.int IntKind.i64 s2, Value.slice C m cc] 54)).cell? ⟨w2.heap.size, 2, none⟩ = some (.int .i64 s1) := by simp [go_sem]
  have c3 : (w2.alloc (Obj.cells #[Value.int IntKind.i64 n, Value.int IntKind.i64 s0, Value.int IntKind.i64 s1, Value.int IntKind.i64 s2, Value.slice C m cc] 54)).cell? ⟨w2.heap.size, 3, none⟩ = some (.int .i64 s2) := by simp [go_sem]
  have c4 : (w2.alloc (Obj.cells #[Value.int IntKind.i64 n, Value.int IntKind.i64 s0, Value.int IntKind.i64 s1, Value.int IntKind.i64 s2, Value.slice C m cc] 54)).cell? ⟨w2.heap.size, 4, none⟩ = some (.slice C m cc) := by simp [go_sem]
  obtain ⟨T, hT⟩ : ∃ T, w2.heap.size = T := ⟨_, rfl⟩
  rw [hT] at c0 c1 c2 c3 c4 ⊢
  generalize (w2.alloc (Obj.cells #[Value.int IntKind.i64 n, Value.int IntKind.i64 s0, Value.int IntKind.i64 s1, Value.int IntKind.i64 s2, Value.slice C m cc] 54)) = w3 at *
  have HB2 := Lib.hid hB2
  clear hb hT hB2
  go_wp2_with (go_at_call 56; (with_reducible refine (HS.out _ HB2.out).mono ?_); rintro e w4 ⟨v, rfl, hSv, hb4⟩)
  go_ret3
  exact ⟨v, rfl, Kd.S_lower hSv HB2.out.size, HB2.out.trans (hb4.mono HB2.out.size)⟩
set_option maxHeartbeats 8000000 in
set_option maxRecDepth 100000 in
theorem Nearest_no (A : Option Addr) (ca : Nat) (s : List Int) (C : Option Addr) (cc : Nat) (c : List Int) (w : World) (hr : Kd.C (Kd.int .i64) w A s.length s) (hc : Kd.C (Kd.int .i64) w C c.length c) (hh : hallB s c = false) :
    Calls Try.prog 42 #[.slice A s.length ca, .slice C c.length cc] w fun e w' => e = .returned (.tuple #[.slice none 0 0, .int .i64 0, .int .i64 2]) ∧ Below w.heap.size w w' := by
  have HALL := Lib.hid (hall_c A ca s C cc c w hr hc)
  rw [hh] at HALL
  simp only [Bool.false_eq_true, if_false] at HALL
  clear hr hc hh
  go_enter Try.func42, Try.ntmps42
  go_wp2_with (go_at_call 44; (with_reducible refine HALL.out.mono ?_); rintro e w2 ⟨rfl, hb⟩)
  go_ret3
  exact ⟨rfl, hb.alloc hb.size _⟩
end Go.Proofs.Ytakbijpcfnipoaa.A
namespace Go.Proofs.Ytakbijpcfnipoaa.PA
open Go.RowKit Go.Proofs.YtakbijpcfnipoaaW.PrintWords Go.Proofs.YtakbijpcfnipoaaW.PrintLast Go.Proofs.YtakbijpcfnipoaaW.PrintMore
open Go.Proofs.Ytakbijpcfnipoaa.A Go.Proofs.Ytakbijpcfnipoaa.Lf
def lifts_Nearest.f (l0 : List Int) (l1 : List Int) : Option ((List (List Int)) × Int × Int) := if hallB l0 l1 then some (runL near l0 l1, cost l0 (runL near l0 l1), 0) else some ([], 0, 2)
theorem lifts_Nearest.calls (A0 : Option Addr) (c0 : Nat) (l0 : List Int) (A1 : Option Addr) (c1 : Nat) (l1 : List Int) (r1 : List (List Int)) (r2 : Int) (r3 : Int) (w : World) (hr0 : Kd.C (Kd.int .i64) w A0 l0.length l0) (_hc0 : l0.length ≤ c0) (hr1 : Kd.C (Kd.int .i64) w A1 l1.length l1) (_hc1 : l1.length ≤ c1) (h : lifts_Nearest.f l0 l1 = some (r1, r2, r3)) :
    Calls Try.prog 42 #[.slice A0 l0.length c0, .slice A1 l1.length c1] w fun e w' => ∃ v0_ : Value, e = .returned (.tuple #[v0_, .int .i64 r2, .int .i64 r3]) ∧ Kd.S (Kd.slice 3 (Kd.int .i64)) 22 w' w.heap.size (fun _ => True) v0_ r1 ∧ Below w.heap.size w w' := by
  unfold lifts_Nearest.f at h
  cases hh : hallB l0 l1 with
  | false =>
    rw [hh] at h
    simp only [Bool.false_eq_true, if_false, Option.some.injEq, Prod.mk.injEq] at h
    obtain ⟨rfl, rfl, rfl⟩ := h
    exact (Nearest_no A0 c0 l0 A1 c1 l1 w hr0 hr1 hh).mono fun e w' ⟨he, hb⟩ => ⟨_, he, Kd.S_nil _ _ _ _ _, hb⟩
  | true =>
    rw [hh] at h
    simp only [if_true, Option.some.injEq, Prod.mk.injEq] at h
    obtain ⟨rfl, rfl, rfl⟩ := h
    exact Nearest_c A0 c0 l0 A1 c1 l1 w hr0 hr1 hh
end Go.Proofs.Ytakbijpcfnipoaa.PA

set_option linter.unusedVariables false
set_option linter.unusedSimpArgs false
namespace Go.Proofs.Ytakbijpcfnipoaa.L
open Go.RowKit Go.Proofs.YtakbijpcfnipoaaW.PrintWords Go.Proofs.YtakbijpcfnipoaaW.PrintLast Go.Proofs.YtakbijpcfnipoaaW.PrintMore
open Go.Proofs.Ytakbijpcfnipoaa.PA Go.Proofs.Ytakbijpcfnipoaa.A Go.Proofs.Ytakbijpcfnipoaa.Lf
abbrev RI := List (Option Addr × Nat × List Int)
abbrev RT := List (Option Addr × Nat × List (List Int))
structure Env (w W : World) (I : RI) (T : RT) : Prop where
  bel : Below w.heap.size w W
  is : ∀ r ∈ I, Kd.C (Kd.int .i64) W r.1 r.2.2.length r.2.2 ∧ r.2.2.length ≤ r.2.1
  ts : ∀ r ∈ T, Kd.C (Kd.slice 3 (Kd.int .i64)) W r.1 r.2.2.length r.2.2 ∧ r.2.2.length ≤ r.2.1
section
variable {w W W' : World} {I : RI} {T : RT}
theorem Env.below (h : Env w W I T) (hb : Below W.heap.size W W') : Env w W' I T :=
  ⟨h.bel.trans (hb.mono h.bel.size), fun r hr => ⟨Kd.C_below (h.is r hr).1 hb, (h.is r hr).2⟩, fun r hr => ⟨Kd.C_below (h.ts r hr).1 hb, (h.ts r hr).2⟩⟩
theorem Env.drawn (h : Env w W I T) (hb : Drawn0 W W') : Env w W' I T := h.below hb.below
theorem Env.addI (h : Env w W I T) {A : Option Addr} {c : Nat} {l : List Int} (h1 : Kd.C (Kd.int .i64) W A l.length l) (h2 : l.length ≤ c) : Env w W ((A, c, l) :: I) T :=
  ⟨h.bel, fun r hr => by rcases List.mem_cons.1 hr with rfl | hr; exact ⟨h1, h2⟩; exact h.is r hr, h.ts⟩
theorem Env.addT (h : Env w W I T) {A : Option Addr} {c : Nat} {l : List (List Int)} (h1 : Kd.C (Kd.slice 3 (Kd.int .i64)) W A l.length l) (h2 : l.length ≤ c) : Env w W I ((A, c, l) :: T) :=
  ⟨h.bel, h.is, fun r hr => by rcases List.mem_cons.1 hr with rfl | hr; exact ⟨h1, h2⟩; exact h.ts r hr⟩
theorem Env.start (w : World) : Env w w [] [] := ⟨Below.refl _ _, by simp, by simp⟩
theorem list_E (h : Env w W I T) {A : Option Addr} {c : Nat} {l : List Int} (hm : (A, c, l) ∈ I) {r : List Int} (hr : l.take 41 = r) :
    Calls Try.prog 14 #[.slice A l.length c] W fun e w' => ∃ A' c', e = .returned (.slice A' r.length c') ∧ Env w w' ((A', c', r) :: I) T := by
  subst hr
  obtain ⟨h1, h2⟩ := h.is _ hm
  refine (turndownlaw07_list.calls A c l _ W h1 h2 (list_f l)).mono ?_
  rintro e w' ⟨v, rfl, hR, hb⟩
  obtain ⟨A', c', rfl, g1, g2⟩ := Kd.R_reads hR
  exact ⟨A', c', rfl, (h.below hb).addI g2 g1⟩
theorem careful_E (h : Env w W I T) {A0 A1 : Option Addr} {c0 c1 : Nat} {s c : List Int} (m0 : (A0, c0, s) ∈ I) (m1 : (A1, c1, c) ∈ I) {r1 : List (List Int)} {r2 r3 : Int} (hf : lifts_Careful.f s c = some (r1, r2, r3)) :
    Calls Try.prog 34 #[.slice A0 s.length c0, .slice A1 c.length c1] W fun e w' => ∃ A' c', e = .returned (.tuple #[.slice A' r1.length c', .int .i64 r2, .int .i64 r3]) ∧ Env w w' I ((A', c', r1) :: T) := by
  refine (lifts_Careful.calls A0 c0 s A1 c1 c r1 r2 r3 W (h.is _ m0).1 (h.is _ m0).2 (h.is _ m1).1 (h.is _ m1).2 hf).mono ?_
  rintro e w' ⟨v, rfl, hR, hb⟩
  obtain ⟨A', c', rfl, g1, g2⟩ := Kd.S_reads hR
  exact ⟨A', c', rfl, (h.below hb).addT g2 g1⟩
theorem nearest_E (h : Env w W I T) {A0 A1 : Option Addr} {c0 c1 : Nat} {s c : List Int} (m0 : (A0, c0, s) ∈ I) (m1 : (A1, c1, c) ∈ I) {r1 : List (List Int)} {r2 r3 : Int} (hf : lifts_Nearest.f s c = some (r1, r2, r3)) :
    Calls Try.prog 42 #[.slice A0 s.length c0, .slice A1 c.length c1] W fun e w' => ∃ A' c', e = .returned (.tuple #[.slice A' r1.length c', .int .i64 r2, .int .i64 r3]) ∧ Env w w' I ((A', c', r1) :: T) := by
  refine (lifts_Nearest.calls A0 c0 s A1 c1 c r1 r2 r3 W (h.is _ m0).1 (h.is _ m0).2 (h.is _ m1).1 (h.is _ m1).2 hf).mono ?_
  rintro e w' ⟨v, rfl, hR, hb⟩
  obtain ⟨A', c', rfl, g1, g2⟩ := Kd.S_reads hR
  exact ⟨A', c', rfl, (h.below hb).addT g2 g1⟩
theorem foresee_E (h : Env w W I T) {A0 A1 : Option Addr} {c0 c1 : Nat} {s c : List Int} (m0 : (A0, c0, s) ∈ I) (m1 : (A1, c1, c) ∈ I) {r1 : List (List Int)} {r2 r3 : Int} (hf : lifts_Foresee.f s c = some (r1, r2, r3)) :
    Calls Try.prog 37 #[.slice A0 s.length c0, .slice A1 c.length c1] W fun e w' => ∃ A' c', e = .returned (.tuple #[.slice A' r1.length c', .int .i64 r2, .int .i64 r3]) ∧ Env w w' I ((A', c', r1) :: T) := by
  refine (lifts_Foresee.calls A0 c0 s A1 c1 c r1 r2 r3 W (h.is _ m0).1 (h.is _ m0).2 (h.is _ m1).1 (h.is _ m1).2 hf).mono ?_
  rintro e w' ⟨v, rfl, hR, hb⟩
  obtain ⟨A', c', rfl, g1, g2⟩ := Kd.S_reads hR
  exact ⟨A', c', rfl, (h.below hb).addT g2 g1⟩
theorem positions_E (h : Env w W I T) {A0 : Option Addr} {c0 : Nat} {s : List Int} (m0 : (A0, c0, s) ∈ I) (hl : s.length ≤ 1000) {r : Bool} (hr : posB s = r) :
    Calls Try.prog 17 #[.slice A0 s.length c0] W fun e w' => e = .returned (.bool r) ∧ Env w w' I T := by
  obtain ⟨k, hk⟩ := Ev.rounds (positions_ev (l := s) (by omega))
  rw [hr] at hk
  refine (turndownref07_Positions.calls k A0 c0 s _ W (h.is _ m0).1 (h.is _ m0).2 hk).mono ?_
  rintro e w' ⟨rfl, hb⟩
  exact ⟨rfl, h.drawn hb⟩
theorem calls_E (h : Env w W I T) {A0 : Option Addr} {c0 : Nat} {s : List Int} (m0 : (A0, c0, s) ∈ I) (hl : s.length ≤ 1000) {r : Bool} (hr : callB s = r) :
    Calls Try.prog 18 #[.slice A0 s.length c0] W fun e w' => e = .returned (.bool r) ∧ Env w w' I T := by
  obtain ⟨k, hk⟩ := Ev.rounds (calls_ev (l := s) (by omega))
  rw [hr] at hk
  refine (turndownref07_Calls.calls k A0 c0 s _ W (h.is _ m0).1 (h.is _ m0).2 hk).mono ?_
  rintro e w' ⟨rfl, hb⟩
  exact ⟨rfl, h.drawn hb⟩
theorem refCareful_E (h : Env w W I T) {A0 A1 : Option Addr} {c0 c1 : Nat} {s c : List Int} (m0 : (A0, c0, s) ∈ I) (m1 : (A1, c1, c) ∈ I) (hh : hallB s c = true) :
    Calls Try.prog 41 #[.slice A0 s.length c0, .slice A1 c.length c1] W fun e w' => ∃ A' c', e = .returned (.slice A' (runL Lf.serve s c).length c') ∧ Env w w' I ((A', c', runL Lf.serve s c) :: T) := by
  obtain ⟨hp, hcb⟩ : posB s = true ∧ callB c = true := by simpa [hallB] using hh
  obtain ⟨hk1, hk3, hs⟩ := posB_iff.1 hp
  obtain ⟨h40, hfl⟩ := callB_iff.1 hcb
  have hlen : (runL Lf.serve s c).length = c.length := by rw [← outs_pth]; unfold outs; simp
  refine (refCareful_c A0 c0 s A1 c1 c W (h.is _ m0).1 (h.is _ m0).2 (h.is _ m1).1 hk1 hk3 hs hfl (by omega)).mono ?_
  rintro e w' ⟨A', c', rfl, g1, g2, hb⟩
  rw [← hlen] at g1 g2 ⊢
  exact ⟨A', c', rfl, (h.below hb).addT g2 g1⟩
theorem refNearest_E (h : Env w W I T) {A0 A1 : Option Addr} {c0 c1 : Nat} {s c : List Int} (m0 : (A0, c0, s) ∈ I) (m1 : (A1, c1, c) ∈ I) (hh : hallB s c = true) :
    Calls Try.prog 43 #[.slice A0 s.length c0, .slice A1 c.length c1] W fun e w' => ∃ A' c', e = .returned (.slice A' (runL near s c).length c') ∧ Env w w' I ((A', c', runL near s c) :: T) := by
  obtain ⟨hp, hcb⟩ : posB s = true ∧ callB c = true := by simpa [hallB] using hh
  obtain ⟨hk1, hk3, hs⟩ := posB_iff.1 hp
  obtain ⟨h40, hfl⟩ := callB_iff.1 hcb
  have hlen : (runL near s c).length = c.length := by rw [← outs_pth]; unfold outs; simp
  refine (refNearest_c A0 c0 s A1 c1 c W (h.is _ m0).1 (h.is _ m0).2 (h.is _ m1).1 hk1 hk3 hs hfl (by omega)).mono ?_
  rintro e w' ⟨A', c', rfl, g1, g2, hb⟩
  rw [← hlen] at g1 g2 ⊢
  exact ⟨A', c', rfl, (h.below hb).addT g2 g1⟩
theorem same_E (h : Env w W I T) {A0 A1 : Option Addr} {c0 c1 : Nat} {a b : List (List Int)} (m0 : (A0, c0, a) ∈ T) (m1 : (A1, c1, b) ∈ T) (hl : a.length ≤ 1000) (hr : ∀ r ∈ a, r.length ≤ 1000) {r : Bool} (hab : decide (a = b) = r) :
    Calls Try.prog 39 #[.slice A0 a.length c0, .slice A1 b.length c1] W fun e w' => e = .returned (.bool r) ∧ Env w w' I T := by
  obtain ⟨k, hk⟩ := Ev.rounds (same_ev (a := a) (b := b) (by omega) (fun r hr' => by have := hr r hr'; omega))
  rw [hab] at hk
  refine (turndownlaw07_same.calls k A0 c0 a A1 c1 b _ W (h.ts _ m0).1 (h.ts _ m0).2 (h.ts _ m1).1 (h.ts _ m1).2 hk).mono ?_
  rintro e w' ⟨rfl, hb⟩
  exact ⟨rfl, h.drawn hb⟩
theorem refCost_E (h : Env w W I T) {A0 A1 : Option Addr} {c0 c1 : Nat} {s : List Int} {l : List (List Int)} (m0 : (A0, c0, s) ∈ I) (m1 : (A1, c1, l) ∈ T) {k : Nat} (hk : k ≤ 3) (hs : Pos k s) (hl : l.length ≤ 1000) (hp : ∀ r ∈ l, Pos k r) {r : Int} (hr : cost s l = r) :
    Calls Try.prog 21 #[.slice A0 s.length c0, .slice A1 l.length c1] W fun e w' => e = .returned (.int .i64 r) ∧ Env w w' I T := by
  obtain ⟨n, hn⟩ := Ev.rounds (cost_ev hk hs hl hp)
  rw [hr] at hn
  refine (turndownref07_Cost.calls n _ A0 c0 s _ A1 c1 l _ W (Kd.V_mk (h.is _ m0).2 (Kd.C_F (Kd.heap_int _) (h.is _ m0).1)) (Kd.V_mk (h.ts _ m1).2 (Kd.C_F (Kd.heap_slice _ (Kd.heap_int _)) (h.ts _ m1).1)) hn).mono ?_
  rintro e w' ⟨rfl, hb⟩
  exact ⟨rfl, h.below hb⟩
theorem awake_E (h : Env w W I T) : Calls Try.prog 19 #[] W fun e w' => e = .returned (.bool true) ∧ Env w w' I T := by
  refine (awake_c W).mono ?_
  rintro e w' ⟨rfl, hb⟩
  exact ⟨rfl, h.below hb⟩
end
end Go.Proofs.Ytakbijpcfnipoaa.L
