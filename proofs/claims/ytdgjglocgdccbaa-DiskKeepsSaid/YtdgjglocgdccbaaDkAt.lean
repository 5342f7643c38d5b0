/- The stand-in disk: at makes a file that is not there; step; no condition but on the name's length and the counts. -/
import Derived.Test.YtdgjglocgdccbaaDkGet
namespace Go.Proofs.Ytdgjglocgdccbaa
open Go.RowKit

theorem putF_self {fs : List Fe} {e : Fe} (h : findF fs (kOf e.nm) = some e) : putF fs e = fs := by
  induction fs with
  | nil => simp [findF] at h
  | cons y r ih =>
    unfold putF
    split
    · rename_i hy
      unfold findF at h
      rw [List.find?_cons_of_pos (by simpa using hy)] at h
      rw [Option.some.inj h]
    · rename_i hy
      rw [ih]
      unfold findF at h ⊢
      rwa [List.find?_cons_of_neg (by simpa using hy)] at h
theorem putF_fbs {fs : List Fe} {e : Fe} (hp : fs.Pairwise fun a b => a.fb ≠ b.fb) (hn : Names fs) (hne : ∀ x ∈ fs, kOf x.nm ≠ kOf e.nm → x.fb ≠ e.fb) : (putF fs e).Pairwise fun a b => a.fb ≠ b.fb := by
  induction fs with
  | nil => simp [putF]
  | cons y r ih =>
    obtain ⟨h1, h2⟩ := List.pairwise_cons.1 hp
    obtain ⟨n1, n2⟩ := List.pairwise_cons.1 hn
    unfold putF
    split
    · rename_i hy
      refine List.pairwise_cons.2 ⟨fun x hx => ?_, h2⟩
      have := hne x (List.mem_cons_of_mem _ hx) (fun q => n1 x hx (by rw [hy, q]))
      exact fun q => this q.symm
    · rename_i hy
      refine List.pairwise_cons.2 ⟨fun x hx => ?_, ih h2 n2 fun x hx => hne x (List.mem_cons_of_mem _ hx)⟩
      rcases putF_mem hx with rfl | ⟨hm, _⟩
      · exact hne y (List.mem_cons_self ..) hy
      · exact h1 x hm
theorem dk_added {n0 : Nat} {w w1 : World} {x : Dd} (h : Dk n0 w x) (hn : n0 ≤ w.heap.size) {s : ByteArray} (hs : s.size ≤ maxLen) (hf : findF x.fs (kOf s) = none) {D : DataW Value} {m : Nat} (hD : w.ownsMap Try.prog 9 Rp x.mb x.mn D) (hM : MpD D x.fs)
    (hown1 : w1.ownsMap Try.prog 9 Rp x.mb m (D.put (.string (kOf s)) (.held (ptrV w.heap.size))))
    (hg : (w.alloc (.cells #[.slice none 0 0, .slice none 0 0] 75)).grownBy w1 (some x.mb)) :
    Dk n0 w1 { x with fs := putF x.fs ⟨s, w.heap.size, [], []⟩, mn := m } ∧ Kp (OnB x.mb) w w1 := by
  have hk : Kp (OnB x.mb) w w1 := ((Kp.refl _ w).alloc _).grown hg (fun k hk => .inr (by simpa [OnB] using hk.symm))
  have hIs : Maps.IsMap D := by obtain ⟨es, cl, _, _, _, e⟩ := hD; exact ⟨_, e⟩
  have hmb : x.mb < w.heap.size := hD.lt
  have hnew : Blk w1 w.heap.size 75 #[.slice none 0 0, .slice none 0 0] := by
    have h0 := Blk.new w 75 #[.slice none 0 0, .slice none 0 0]
    unfold Blk at h0 ⊢
    rw [← h0]
    exact hg.block _ (by simp) (by simp; omega)
  have ndb : ¬ OnB x.mb x.db := by
    intro q
    obtain ⟨es, cl, hb, _⟩ := hD
    have := h.blk
    unfold Blk at this
    rw [show x.db = x.mb from q, hb] at this
    cases this
  have cellNe : ∀ g cs t, w.heap[g]? = some (.cells cs t (0, 0)) → ¬ OnB x.mb g := by
    rintro g cs t hg' rfl
    obtain ⟨es, cl, hb, _⟩ := hD
    rw [hb] at hg'
    cases hg'
  have hfl : ∀ e ∈ x.fs, FeOk w1 n0 e := fun e he => (h.fls e he).keep hk (by obtain ⟨u, v, hb, _⟩ := (h.fls e he).blk; exact cellNe _ _ _ hb) (fun g cs hc => cellNe g cs _ hc)
  refine ⟨{ h with
    blk := h.blk.keep hk ndb
    mp := ⟨_, hown1, hM.put hIs ⟨s, w.heap.size, [], []⟩ (keyed.key (keyS s hs))⟩
    names := putF_names h.names _
    fbs := putF_fbs h.fbs h.names (fun e he _ => by
      obtain ⟨u, v, hb, _⟩ := (h.fls e he).blk
      have := hb.lt
      exact Nat.ne_of_lt this)
    fls := fun e he => by
      rcases putF_mem he with rfl | ⟨hm, _⟩
      · exact ⟨⟨_, _, hnew, Bq.none _ _, Bq.none _ _⟩, by simp, by simp⟩
      · exact hfl e hm
    pend := own_keepB h.pend hk (fun g hg' => by obtain ⟨cs, hc⟩ := own_type h.pend hg'; exact cellNe _ _ _ hc)
    b2 := fun e he => by
      rcases putF_mem he with rfl | ⟨hm, _⟩
      · exact hn
      · exact h.b2 e hm }, hk⟩
def AtPost (n0 : Nat) (w : World) (x : Dd) (s : ByteArray) (e : Ending) (w' : World) : Prop :=
  ∃ e0 m, e = .returned (ptrV e0.fb) ∧ Dk n0 w' { x with fs := putF x.fs e0, mn := m } ∧ m ≤ x.mn + 1 ∧ e0.nm = s ∧ e0.seen = seenOf x.fs s ∧ e0.kept = keptOf x.fs s ∧ Kp (OnB x.mb) w w' ∧ ((∃ q ∈ x.fs, q.fb = e0.fb) ∨ w.heap.size ≤ e0.fb)
set_option maxRecDepth 100000 in
theorem at_ok (w : World) (n0 : Nat) (x : Dd) (s : ByteArray) (hs : s.size ≤ maxLen) (hm : x.mn < 1099511627776) (hn : n0 ≤ w.heap.size) (h : Dk n0 w x) :
    Calls Try.prog 35 #[ptrV x.db, .string s] w (AtPost n0 w x s) := by
  have H := Lib.hid h
  have HS := Lib.hid hs
  have HN := Lib.hid hn
  have c0 : w.cell? ⟨x.db, 0, none⟩ = some (.map (some x.mb)) := by rw [h.blk.cell]; rfl
  have hl := h.look s hs
  unfold ptrV
  cases hf : findF x.fs (kOf s) with
  | some e =>
    have HF := Lib.hid hf
    rw [show foundV x.fs (kOf s) = .pointer (some ⟨e.fb, 0, none⟩) by unfold foundV; rw [hf]; rfl] at hl
    clear h hf hs hn hm
    go_enter Try.func35, Try.ntmps35
    go_wp2_with fail
    go_ret
    have hk := (findF_some HF.out).2
    have hnm : e.nm = s := kOf_inj hk
    have hp : putF x.fs e = x.fs := putF_self (by rw [hk]; exact HF.out)
    exact ⟨e, x.mn, rfl, by rw [hp]; exact H.out, by omega, hnm, by unfold seenOf; rw [HF.out], by unfold keptOf; rw [HF.out], Kp.refl _ _, .inl ⟨e, (findF_some HF.out).1, rfl⟩⟩
  | none =>
    have HF := Lib.hid hf
    rw [show foundV x.fs (kOf s) = .pointer none by unfold foundV; rw [hf]] at hl
    obtain ⟨D, hD, hM⟩ := h.mp
    have HD := Lib.hid hD
    have HM := Lib.hid hM
    have hT : Hid (x.mn < maxLen) := Lib.hid (by unfold maxLen; omega)
    have HB := Lib.hid h.blk
    clear h hf hs hn hm hD hM
    go_enter Try.func35, Try.ntmps35
    go_wp2_with (at_mapUpdate; refine wpList_mapUpdate_own _ rfl _ _ _ 61 rfl 9 69 keyed Try.underlying61 Rp x.mb x.mn D rfl (HD.out.alloc _) hT.out _ _ (.string (kOf s)) rfl rfl (keyS s HS.out) (.held (ptrV w.heap.size)) [] rfl ?_; intro w1 hown1 hgrow1; have hA := dk_added H.out HN.out HS.out HF.out HD.out HM.out hown1 hgrow1; have HA := Lib.hid hA; have c1 : w1.cell? ⟨x.db, 0, none⟩ = some (.map (some x.mb)) := (by rw [hA.1.blk.cell]; rfl); have hl1 := hA.1.look s HS.out; rw [show foundV _ (kOf s) = .pointer (some ⟨w.heap.size, 0, none⟩) by unfold foundV; simp only [putF_find, if_true]; rfl] at hl1; clear hA hown1 hgrow1)
    go_ret
    exact ⟨⟨s, w.heap.size, [], []⟩, _, rfl, HA.out.1, Nat.le_refl _, rfl, by unfold seenOf; rw [HF.out], by unfold keptOf; rw [HF.out], HA.out.2, .inr (Nat.le_refl _)⟩
end Go.Proofs.Ytdgjglocgdccbaa
