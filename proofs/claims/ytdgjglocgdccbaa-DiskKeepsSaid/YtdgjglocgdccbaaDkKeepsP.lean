/- DiskKeeps in plain Lean: what survives; no condition. -/
import Derived.Test.YtdgjglocgdccbaaDkStepsP
namespace Go.Proofs.Ytdgjglocgdccbaa
open Go

def nmA : ByteArray := ⟨#[97]⟩
def nmB : ByteArray := ⟨#[98]⟩
theorem nmAB : nmA ≠ nmB := by decide
/-- a change to a file: bytes at a place, or a number of bytes -/
def wrote1 (p : Pl) (s : ByteArray) (x : Int × ByteArray) : Pl :=
  if x.2.size = 0 then p.trunc s (bits BinOp.and IntKind.i64 x.1 4095) else p.write s (bits BinOp.and IntKind.i64 x.1 4095) (strI x.2)
def wroteP (p : Pl) (s : ByteArray) (L : List (Int × ByteArray)) : Pl := L.foldl (fun p x => wrote1 p s x) p
/-- all changes of a list, one after the other -/
def replay (l : List Int) (cs : List Cg) : List Int := cs.foldl (fun l c => Pl.made l c 1) l
theorem replay_app (l : List Int) (cs ds : List Cg) : replay l (cs ++ ds) = replay (replay l cs) ds := by unfold replay; rw [List.foldl_append]
theorem chunk (m : List Int) : ((sizedF m 64).take 64).take m.length = m.take 64 := by
  unfold sizedF
  split
  · rw [List.take_take, List.take_take]
    congr 1
    omega
  · rw [List.take_of_length_le (i := 64) (by simp; omega), List.take_left' rfl, List.take_of_length_le (by omega)]
theorem made_sector (l : List Int) (s : ByteArray) (k : Nat) (m : List Int) : Pl.made l ⟨s, (k : Int), 0, m⟩ 1 = Pl.put l (k * 64) ((m.take 64).take (l.length - k * 64)) := by
  unfold Pl.made
  rw [if_neg (by omega), if_neg (by simp), if_neg (by omega)]
  simp
/-- the sectors of a write, one after the other, make the file what it is -/
theorem replay_sectors (s : ByteArray) (l0 l : List Int) (hl : l0.length = l.length) (k0 : Nat) : ∀ m, (k0 + m - 1) * 64 ≤ l.length ∨ m = 0 →
    replay l0 ((List.range' k0 m).map fun (k : Nat) => ⟨s, (k : Int), 0, sizedF (l.drop (k * 64)) 64⟩) = l0.take (k0 * 64) ++ (l.drop (k0 * 64)).take (m * 64) ++ l0.drop ((k0 + m) * 64) := by
  intro m
  induction m with
  | zero => intro _; simp [replay]
  | succ m ih =>
    intro hm
    have hm' : (k0 + m) * 64 ≤ l.length := by rcases hm with q | q <;> omega
    rw [List.range'_concat, List.map_append, replay_app, ih (by omega)]
    simp only [List.map_cons, List.map_nil, Nat.one_mul]
    have hA : (l0.take (k0 * 64)).length = k0 * 64 := by rw [List.length_take]; omega
    have hB : ((l.drop (k0 * 64)).take (m * 64)).length = m * 64 := by rw [List.length_take, List.length_drop]; omega
    have hC : (l0.drop ((k0 + m) * 64)).length = l.length - (k0 + m) * 64 := by rw [List.length_drop, hl]
    have hlen : (l0.take (k0 * 64) ++ (l.drop (k0 * 64)).take (m * 64) ++ l0.drop ((k0 + m) * 64)).length = l.length := by
      rw [List.length_append, List.length_append, hA, hB, hC]; omega
    show Pl.made _ ⟨s, ((k0 + m : Nat) : Int), 0, _⟩ 1 = _
    rw [made_sector, hlen]
    have hd : (l.drop ((k0 + m) * 64)).length = l.length - (k0 + m) * 64 := List.length_drop
    rw [← hd, chunk]
    unfold Pl.put
    have hAB : (l0.take (k0 * 64) ++ (l.drop (k0 * 64)).take (m * 64)).length = (k0 + m) * 64 := by rw [List.length_append, hA, hB]; omega
    have e1 : (l0.take (k0 * 64) ++ (l.drop (k0 * 64)).take (m * 64) ++ l0.drop ((k0 + m) * 64)).take ((k0 + m) * 64) = l0.take (k0 * 64) ++ (l.drop (k0 * 64)).take (m * 64) := by rw [← hAB]; exact List.take_left
    rw [e1]
    have hx : ((l.drop ((k0 + m) * 64)).take 64).length = min 64 (l.length - (k0 + m) * 64) := by rw [List.length_take, hd]
    have e2 : (l0.take (k0 * 64) ++ (l.drop (k0 * 64)).take (m * 64) ++ l0.drop ((k0 + m) * 64)).drop ((k0 + m) * 64 + ((l.drop ((k0 + m) * 64)).take 64).length) = l0.drop ((k0 + (m + 1)) * 64) := by
      rw [← List.drop_drop]
      have : (l0.take (k0 * 64) ++ (l.drop (k0 * 64)).take (m * 64) ++ l0.drop ((k0 + m) * 64)).drop ((k0 + m) * 64) = l0.drop ((k0 + m) * 64) := by rw [← hAB]; exact List.drop_left
      rw [this, List.drop_drop, hx]
      by_cases h : 64 ≤ l.length - (k0 + m) * 64
      · rw [Nat.min_eq_left h]; congr 1; omega
      · rw [List.drop_eq_nil_of_le (by omega), List.drop_eq_nil_of_le (by omega)]
    rw [e2]
    have e3 : (l.drop (k0 * 64)).take ((m + 1) * 64) = (l.drop (k0 * 64)).take (m * 64) ++ (l.drop ((k0 + m) * 64)).take 64 := by
      rw [show (m + 1) * 64 = m * 64 + 64 by omega, List.take_add, List.drop_drop]
      congr 3
      omega
    rw [e3]
    simp only [List.append_assoc]
theorem replay_put (s : ByteArray) (l0 d : List Int) (a : Nat) (h : a + d.length ≤ l0.length) (hd : 0 < d.length) : replay l0 (Pl.sectors s (Pl.put l0 a d) a (a + d.length)) = Pl.put l0 a d := by
  have hl := put_len2 l0 d a h
  unfold Pl.sectors
  rw [replay_sectors s l0 (Pl.put l0 a d) hl.symm (a / 64) _ (by omega)]
  have hk : a / 64 + ((a + d.length + 63) / 64 - a / 64) = (a + d.length + 63) / 64 := by omega
  have e1 : l0.take (a / 64 * 64) = (Pl.put l0 a d).take (a / 64 * 64) := by
    unfold Pl.put
    rw [List.append_assoc, List.take_append_of_le_length (by rw [List.length_take]; omega), List.take_take]
    congr 1
    omega
  have e2 : l0.drop ((a / 64 + ((a + d.length + 63) / 64 - a / 64)) * 64) = (Pl.put l0 a d).drop ((a / 64 + ((a + d.length + 63) / 64 - a / 64)) * 64) := by
    have hAB : (l0.take a ++ d).length = a + d.length := by rw [List.length_append, List.length_take]; omega
    unfold Pl.put
    rw [show (a / 64 + ((a + d.length + 63) / 64 - a / 64)) * 64 = (a + d.length) + ((a / 64 + ((a + d.length + 63) / 64 - a / 64)) * 64 - (a + d.length)) by omega, ← List.drop_drop, ← List.drop_drop (l := l0.take a ++ d ++ l0.drop (a + d.length))]
    congr 1
    rw [← hAB]
    exact List.drop_left.symm
  rw [e1, e2, show (a / 64 + ((a + d.length + 63) / 64 - a / 64)) * 64 = a / 64 * 64 + ((a + d.length + 63) / 64 - a / 64) * 64 by omega, ← List.drop_drop, List.append_assoc, List.take_append_drop, List.take_append_drop]
/-- a disk that nothing crashes, whose changes are all of one file -/
structure KI (s : ByteArray) (i : Nat) (p : Pl) : Prop where
  down : p.down = false
  crash : p.crash = 0
  names : ∀ c ∈ p.pd, c.nm = s
  play : replay (p.kept s) p.pd = p.seen s
  len : (p.seen s).length ≤ 1048576
  nf : p.nf ≤ 4 * i
  pd : p.pd.length ≤ 200 * i
theorem KI.wrote1 {s : ByteArray} {i : Nat} {p : Pl} (h : KI s i p) (x : Int × ByteArray) (hx : x.2.size ≤ 2000) : KI s (i + 1) (wrote1 p s x) ∧ ∀ t, t ≠ s → (wrote1 p s x).seen t = p.seen t ∧ (wrote1 p s x).kept t = p.kept t := by
  have ha := and4095 x.1
  unfold Go.Proofs.Ytdgjglocgdccbaa.wrote1
  generalize bits BinOp.and IntKind.i64 x.1 4095 = a at ha
  have hnf := h.nf
  have hpd := h.pd
  have hsd : p.step.down = false := by simp only [Pl.step, h.crash, h.down]; rfl
  have hsc : p.step.crash = 0 := by simp only [Pl.step, h.crash]; rfl
  have same : KI s (i + 1) p := { h with nf := by omega, pd := by omega }
  have samestep : KI s (i + 1) p.step := { down := hsd, crash := hsc, names := h.names, play := h.play, len := h.len, nf := by show p.nf ≤ _; omega, pd := by show p.pd.length ≤ _; omega }
  have hlen : KI s (i + 1) (p.length s a.toNat).step ∧ ∀ t, t ≠ s → (p.length s a.toNat).step.seen t = p.seen t ∧ (p.length s a.toNat).step.kept t = p.kept t := by
    obtain ⟨h1, h2, h3, h4, h5, h6, h7, h8, h9, h10, h11⟩ := length_props p s a.toNat
    refine ⟨?_, fun t ht => ⟨by show (p.length s a.toNat).seen t = _; rw [h1, upd_other _ _ ht], by show (p.length s a.toNat).kept t = _; rw [h2]⟩⟩
    exact
      { down := by show (if (p.length s a.toNat).crash = 1 then true else (p.length s a.toNat).down) = false; rw [h9, h10, h.crash, h.down]; rfl
        crash := by show (if 0 < (p.length s a.toNat).crash then (p.length s a.toNat).crash - 1 else (p.length s a.toNat).crash) = 0; rw [h9, h.crash]; rfl
        names := by
          show ∀ c ∈ (p.length s a.toNat).pd, _
          unfold Pl.length
          split
          · exact h.names
          · intro c hc
            rcases List.mem_append.1 hc with q | q
            · exact h.names c q
            · rw [List.mem_singleton.1 q]
        play := by
          show replay ((p.length s a.toNat).kept s) (p.length s a.toNat).pd = (p.length s a.toNat).seen s
          rw [h1, h2, upd_same]
          unfold Pl.length
          split
          · rename_i hq
            rw [hq, sizedF_self]
            exact h.play
          · show replay (p.kept s) (p.pd ++ _) = _
            rw [replay_app, h.play]
            simp only [replay, List.foldl_cons, List.foldl_nil, Pl.made]
            rw [if_neg (by omega), if_pos (by omega), Int.toNat_natCast]
        len := by show ((p.length s a.toNat).seen s).length ≤ _; rw [h1, upd_same, sizedF_len]; omega
        nf := by show (p.length s a.toNat).nf ≤ _; omega
        pd := by show (p.length s a.toNat).pd.length ≤ _; omega }
  by_cases hz : x.2.size = 0
  · rw [if_pos hz]
    unfold Pl.trunc
    by_cases hf : p.down ∨ a < 0 ∨ p.fits s a ≠ 0
    · rw [if_pos hf]; exact ⟨same, fun t _ => ⟨rfl, rfl⟩⟩
    · rw [if_neg hf]; exact hlen
  · rw [if_neg hz]
    have hdl := strI_len x.2
    have hdne : strI x.2 ≠ [] := fun q => by rw [q] at hdl; simp at hdl; omega
    generalize strI x.2 = d at hdl hdne
    unfold Pl.write
    by_cases hf : p.down ∨ a < 0 ∨ 1048576 < a ∨ 1048576 - a < d.length
    · rw [if_pos hf]; exact ⟨same, fun t _ => ⟨rfl, rfl⟩⟩
    · rw [if_neg hf, if_neg hdne]
      by_cases hq : p.fits s (max (a + d.length) (p.seen s).length) ≠ 0
      · rw [if_pos hq]; exact ⟨same, fun t _ => ⟨rfl, rfl⟩⟩
      · rw [if_neg hq]
        obtain ⟨h1, h2, h3, h4, h5, h6, h7, h8, h9, h10, h11⟩ := write1_props p s a.toNat d
        refine ⟨?_, fun t ht => ⟨by rw [h1, upd_other _ _ ht], by rw [h2]⟩⟩
        have hd0 : 0 < d.length := by
          rcases d with _ | ⟨y, r⟩
          · exact absurd rfl hdne
          · simp
        exact
          { down := by rw [h10]; exact hsd
            crash := by rw [h9]; exact hsc
            names := by
              intro c hc
              unfold Pl.write1 at hc
              simp only [Pl.step, Pl.pend, Pl.setSeen, Pl.at_] at hc
              rcases List.mem_append.1 hc with q | q
              · by_cases hg : (p.seen s).length < a.toNat + d.length
                · rw [if_pos hg] at q
                  unfold Pl.length at q
                  split at q
                  · exact h.names c q
                  · rcases List.mem_append.1 q with q | q
                    · exact h.names c q
                    · rw [List.mem_singleton.1 q]
                · rw [if_neg hg] at q
                  exact h.names c q
              · unfold Pl.sectors at q
                obtain ⟨k, _, rfl⟩ := List.mem_map.1 q
                rfl
            play := by
              rw [h2, h1, upd_same]
              unfold Pl.write1
              simp only [Pl.step, Pl.pend, Pl.setSeen, Pl.at_]
              by_cases hg : (p.seen s).length < a.toNat + d.length
              · have hl1 : (p.length s (a.toNat + d.length)).seen s = sizedF (p.seen s) (a.toNat + d.length) := by rw [(length_props p s _).1, upd_same]
                have hpl : replay (p.kept s) (p.length s (a.toNat + d.length)).pd = sizedF (p.seen s) (a.toNat + d.length) := by
                  unfold Pl.length
                  rw [if_neg (by omega)]
                  show replay (p.kept s) (p.pd ++ _) = _
                  rw [replay_app, h.play]
                  simp only [replay, List.foldl_cons, List.foldl_nil, Pl.made]
                  rw [if_neg (by omega), if_pos (by omega), Int.toNat_natCast]
                rw [if_pos hg, replay_app, hpl, hl1]
                have hw : wrote (p.seen s) a.toNat d = Pl.put (sizedF (p.seen s) (a.toNat + d.length)) a.toNat d := by unfold wrote; rw [if_pos hg]
                rw [hw]
                exact replay_put s _ d a.toNat (by rw [sizedF_len]; omega) hd0
              · rw [if_neg hg, replay_app, h.play]
                have hw : wrote (p.seen s) a.toNat d = Pl.put (p.seen s) a.toNat d := by unfold wrote; rw [if_neg hg]
                rw [hw]
                exact replay_put s _ d a.toNat (by omega) hd0
            len := by rw [h1, upd_same, wrote_len]; have := h.len; omega
            nf := by omega
            pd := by omega }
theorem KI.all {s : ByteArray} : ∀ {L : List (Int × ByteArray)} {i : Nat} {p : Pl}, KI s i p → (∀ x ∈ L, x.2.size ≤ 2000) → KI s (i + L.length) (wroteP p s L) ∧ ∀ t, t ≠ s → (wroteP p s L).seen t = p.seen t ∧ (wroteP p s L).kept t = p.kept t
  | [], i, p, h, _ => ⟨h, fun _ _ => ⟨rfl, rfl⟩⟩
  | x :: L, i, p, h, hx => by
    obtain ⟨h1, h2⟩ := h.wrote1 x (hx x (List.mem_cons_self ..))
    obtain ⟨h3, h4⟩ := KI.all (L := L) h1 (fun y hy => hx y (List.mem_cons_of_mem _ hy))
    refine ⟨?_, fun t ht => ?_⟩
    · have : i + (x :: L).length = i + 1 + L.length := by simp; omega
      rw [this]
      exact h3
    · exact ⟨((h4 t ht).1).trans (h2 t ht).1, ((h4 t ht).2).trans (h2 t ht).2⟩
theorem survive_other (t : ByteArray) : ∀ (cs : List Cg) (chs : List Int) (p : Pl), (∀ c ∈ cs, c.nm ≠ t) → (p.survive cs chs).kept t = p.kept t := by
  intro cs
  induction cs with
  | nil => intro chs p _; cases chs <;> rfl
  | cons c cs ih =>
    intro chs p h
    cases chs with
    | nil => rfl
    | cons y r =>
      simp only [Pl.survive]
      rw [ih r _ (fun c' hc' => h c' (List.mem_cons_of_mem _ hc'))]
      show upd p.kept c.nm _ t = _
      rw [upd_other _ _ (fun q => h c (List.mem_cons_self ..) q.symm)]
theorem survive_ones (s : ByteArray) : ∀ (cs : List Cg) (p : Pl), (∀ c ∈ cs, c.nm = s) → (p.survive cs (List.replicate cs.length 1)).kept s = replay (p.kept s) cs := by
  intro cs
  induction cs with
  | nil => intro p _; rfl
  | cons c cs ih =>
    intro p h
    simp only [List.length_cons, List.replicate_succ, Pl.survive]
    rw [ih _ (fun c' hc' => h c' (List.mem_cons_of_mem _ hc'))]
    have hc := h c (List.mem_cons_self ..)
    show replay (upd p.kept c.nm _ s) cs = replay (p.kept s) (c :: cs)
    rw [hc, upd_same]
    rfl
theorem read_all {p : Pl} (h : p.down = false) (s : ByteArray) (hl : (p.seen s).length ≤ 1048576) : p.readE 0 1048576 = 0 ∧ p.read s 0 1048576 = p.seen s := by
  have e : p.readE 0 1048576 = 0 := by unfold Pl.readE; rw [h]; simp
  refine ⟨e, ?_⟩
  unfold Pl.read
  rw [if_pos e]
  simp
  exact List.take_of_length_le (by omega)
end Go.Proofs.Ytdgjglocgdccbaa
