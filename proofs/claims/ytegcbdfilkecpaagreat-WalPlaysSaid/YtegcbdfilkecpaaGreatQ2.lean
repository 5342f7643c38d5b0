/- Texts of this proof, one behind the other: lemmas and contracts; each says its own conditions. -/
import Derived.Test.YtegcbdfilkecpaaGreatQ1
import Derived.Deep.AppendLies
import Derived.Great.FillDense
namespace Go.Proofs.YtegcbdfilkecpaaGreat
section
open Go.RowKit
theorem putF_self {fs : List Fe} {e : Fe} (h : findF fs (kOf e.nm) = some e) : putF fs e = fs := by
 induction fs with
 | nil => simp [findF] at h
 | cons y r ih =>
  unfold putF
  split
  ·rename_i hy
   unfold findF at h
   rw [List.find?_cons_of_pos (by simpa using hy)] at h
   rw [Option.some.inj h]
  ·rename_i hy
   rw [ih]
   unfold findF at h ⊢
   rwa [List.find?_cons_of_neg (by simpa using hy)] at h
theorem putF_fbs {fs : List Fe} {e : Fe} (hp : fs.Pairwise fun a b => a.fb ≠ b.fb) (hn : Names fs) (hne : ∀ x ∈ fs, kOf x.nm ≠ kOf e.nm → x.fb ≠ e.fb) : (putF fs e).Pairwise fun a b => a.fb ≠ b.fb := by
 induction fs with
 | nil => simp [putF]
 | cons y r ih =>
  obtain ⟨h1, h2⟩ := List.pairwise_cons.1 hp
  obtain ⟨n1, n2⟩ := List.pairwise_cons.1 hn
  unfold putF
  split
  ·rename_i hy
   refine List.pairwise_cons.2 ⟨fun x hx => ?_, h2⟩
   have := hne x (List.mem_cons_of_mem _ hx) (fun q => n1 x hx (by rw [hy, q]))
   exact fun q => this q.symm
  ·rename_i hy
   refine List.pairwise_cons.2 ⟨fun x hx => ?_, ih h2 n2 fun x hx => hne x (List.mem_cons_of_mem _ hx)⟩
   rcases putF_mem hx with rfl | ⟨hm, _⟩
   ·exact hne y (List.mem_cons_self ..) hy
   ·exact h1 x hm
theorem dk_added {n0 : Nat} {w w1 : World} {x : Dd} (h : Dk n0 w x) (hn : n0 ≤ w.heap.size) {s : ByteArray} (hs : s.size ≤ maxLen) (hf : findF x.fs (kOf s) = none) {D : DataW Value} {m : Nat} (hD : w.ownsMap Tryz.prog 9 Rp x.mb x.mn D) (hM : MpD D x.fs)
  (hown1 : w1.ownsMap Tryz.prog 9 Rp x.mb m (D.put (.string (kOf s)) (.held (ptrV w.heap.size))))
  (hg : (w.alloc (.cells #[.slice none 0 0, .slice none 0 0] 128)).grownBy w1 (some x.mb)) :
  Dk n0 w1 { x with fs := putF x.fs ⟨s, w.heap.size, [], []⟩, mn := m } ∧ Kp (OnB x.mb) w w1 := by
 have hk : Kp (OnB x.mb) w w1 := ((Kp.refl _ w).alloc _).grown hg (fun k hk => .inr (by simpa [OnB] using hk.symm))
 have hIs : Maps.IsMap D := by obtain ⟨es, cl, _, _, _, e⟩ := hD; exact ⟨_, e⟩
 have hmb : x.mb < w.heap.size := hD.lt
 have hnew : Blk w1 w.heap.size 128 #[.slice none 0 0, .slice none 0 0] := by
  have h0 := Blk.new w 128 #[.slice none 0 0, .slice none 0 0]
  unfold Blk at h0 ⊢
  rw [← h0]
  exact hg.block _ (by simp) (by simp; omega)
 have ndb : ¬ OnB x.mb x.db := by
  intro q
  obtain ⟨es, cl, hb, _⟩ := hD
  have := h.blk
  unfold Blk at this
  rw [show x.db = x.mb from q, hb] at this
  cases this
 have cellNe : ∀ g cs t, w.heap[g]? = some (.cells cs t (0, 0)) → ¬ OnB x.mb g := by
  rintro g cs t hg' rfl
  obtain ⟨es, cl, hb, _⟩ := hD
  rw [hb] at hg'
  cases hg'
 have hfl : ∀ e ∈ x.fs, FeOk w1 n0 e := fun e he => (h.fls e he).keep hk (by obtain ⟨u, v, hb, _⟩ := (h.fls e he).blk; exact cellNe _ _ _ hb) (fun g cs hc => cellNe g cs _ hc)
 refine ⟨{ h with
  blk := h.blk.keep hk ndb
  mp := ⟨_, hown1, hM.put hIs ⟨s, w.heap.size, [], []⟩ (keyed.key (keyS s hs))⟩
  names := putF_names h.names _
  fbs := putF_fbs h.fbs h.names (fun e he _ => by
   obtain ⟨u, v, hb, _⟩ := (h.fls e he).blk
   have := hb.lt
   exact Nat.ne_of_lt this)
  fls := fun e he => by
   rcases putF_mem he with rfl | ⟨hm, _⟩
   ·exact ⟨⟨_, _, hnew, Bq.none _ _, Bq.none _ _⟩, by simp, by simp⟩
   ·exact hfl e hm
  pend := own_keepB h.pend hk (fun g hg' => by obtain ⟨cs, hc⟩ := own_type h.pend hg'; exact cellNe _ _ _ hc)
  b2 := fun e he => by
   rcases putF_mem he with rfl | ⟨hm, _⟩
   ·exact hn
   ·exact h.b2 e hm }, hk⟩
def AtPost (n0 : Nat) (w : World) (x : Dd) (s : ByteArray) (e : Ending) (w' : World) : Prop :=
 ∃ e0 m, e = .returned (ptrV e0.fb) ∧ Dk n0 w' { x with fs := putF x.fs e0, mn := m } ∧ m ≤ x.mn + 1 ∧ e0.nm = s ∧ e0.seen = seenOf x.fs s ∧ e0.kept = keptOf x.fs s ∧ Kp (OnB x.mb) w w' ∧ ((∃ q ∈ x.fs, q.fb = e0.fb) ∨ w.heap.size ≤ e0.fb)
set_option maxRecDepth 100000 in
theorem at_ok (w : World) (n0 : Nat) (x : Dd) (s : ByteArray) (hs : s.size ≤ maxLen) (hm : x.mn < 1099511627776) (hn : n0 ≤ w.heap.size) (h : Dk n0 w x) :
  Calls Tryz.prog 61 #[ptrV x.db, .string s] w (AtPost n0 w x s) := by
 have H := zh h
 have HS := zh hs
 have HN := zh hn
 have c0 : w.cell? ⟨x.db, 0, none⟩ = some (.map (some x.mb)) := by rw [h.blk.cell]; rfl
 have hl := h.look s hs
 unfold ptrV
 cases hf : findF x.fs (kOf s) with
 | some e =>
  have HF := zh hf
  rw [show foundV x.fs (kOf s) = .pointer (some ⟨e.fb, 0, none⟩) by unfold foundV; rw [hf]; rfl] at hl
  clear h hf hs hn hm
  go_enter Tryz.func61, Tryz.ntmps61
  go_wp2_with fail
  go_ret
  have hk := (findF_some HF.out).2
  have hnm : e.nm = s := kOf_inj hk
  have hp : putF x.fs e = x.fs := putF_self (by rw [hk]; exact HF.out)
  exact ⟨e, x.mn, rfl, by rw [hp]; exact H.out, by omega, hnm, by unfold seenOf; rw [HF.out], by unfold keptOf; rw [HF.out], Kp.refl _ _, .inl ⟨e, (findF_some HF.out).1, rfl⟩⟩
 | none =>
  have HF := zh hf
  rw [show foundV x.fs (kOf s) = .pointer none by unfold foundV; rw [hf]] at hl
  obtain ⟨D, hD, hM⟩ := h.mp
  have HD := zh hD
  have HM := zh hM
  have hT : Hid (x.mn < maxLen) := zh (by unfold maxLen; omega)
  have HB := zh h.blk
  clear h hf hs hn hm hD hM
  go_enter Tryz.func61, Tryz.ntmps61
  go_wp2_with (at_mapUpdate; refine wpList_mapUpdate_own _ rfl _ _ _ 52 rfl 9 122 keyed Tryz.underlying52 Rp x.mb x.mn D rfl (HD.out.alloc _) hT.out _ _ (.string (kOf s)) rfl rfl (keyS s HS.out) (.held (ptrV w.heap.size)) [] rfl ?_; intro w1 hown1 hgrow1; have hA := dk_added H.out HN.out HS.out HF.out HD.out HM.out hown1 hgrow1; have HA := zh hA; have c1 : w1.cell? ⟨x.db, 0, none⟩ = some (.map (some x.mb)) := (by rw [hA.1.blk.cell]; rfl); have hl1 := hA.1.look s HS.out; rw [show foundV _ (kOf s) = .pointer (some ⟨w.heap.size, 0, none⟩) by unfold foundV; simp only [putF_find, if_true]; rfl] at hl1; clear hA hown1 hgrow1)
  go_ret
  exact ⟨⟨s, w.heap.size, [], []⟩, _, rfl, HA.out.1, Nat.le_refl _, rfl, by unfold seenOf; rw [HF.out], by unfold keptOf; rw [HF.out], HA.out.2, .inr (Nat.le_refl _)⟩
end
section
open Go.RowKit
theorem onb_cells {w : World} {b g : Nat} {cs cs' : Array Value} {t t' : TypeId} (hb : Blk w b t cs) (hg : w.heap[g]? = some (.cells cs' t' (0, 0))) (hne : t ≠ t') : ¬ OnB b g := by
 rintro rfl
 exact blk_ne hb hg hne rfl
theorem Dk.numbers {n0 : Nat} {w w' : World} {x : Dd} (h : Dk n0 w x) (k : Kp (OnB x.db) w w') (room steps crash : Int) (down : Bool) (starts : Int)
  (hb : Blk w' x.db 55 #[.map (some x.mb), x.pv, .int .i64 room, .int .i64 steps, .int .i64 crash, .bool down, .int .i64 starts])
  (r0 : 0 ≤ room ∧ room ≤ 9223372036854775807) (c0 : 0 ≤ crash ∧ crash ≤ 9223372036854775807) :
  Dk n0 w' { x with room := room, steps := steps, crash := crash, down := down, starts := starts } := by
 obtain ⟨D, hD, hM⟩ := h.mp
 have hmb : ¬ OnB x.db x.mb := by
  intro q
  obtain ⟨es, cl, hm, _⟩ := hD
  have := h.blk
  unfold Blk at this
  rw [← show x.mb = x.db from q, hm] at this
  cases this
 exact { h with
  blk := hb
  mp := ⟨D, k.map hD hmb, hM⟩
  fls := fun e he => (h.fls e he).keep k (by obtain ⟨u, v, hb', _⟩ := (h.fls e he).blk; exact onb_cells h.blk hb' (by decide)) (fun g cs hc => onb_cells h.blk hc (by decide))
  pend := own_keepB h.pend k (fun g hg => by obtain ⟨cs, hc⟩ := own_type h.pend hg; exact onb_cells h.blk hc (by decide))
  r0 := r0
  c0 := c0 }
theorem Kp.setAt {S : Nat → Prop} {a w : World} (h : Kp S a w) {g : Nat} (hS : S g) (o : Nat) (u : Value) : Kp S a (w.setCell ⟨g, o, none⟩ u) := h.setCell (.inr hS) u
def stepF (x : Dd) : Dd := { x with steps := wrp (x.steps + 1), crash := if 0 < x.crash then x.crash - 1 else x.crash, down := if x.crash = 1 then true else x.down }
def stepE (x : Dd) : Int := if x.crash = 1 then 7 else 0
set_option maxRecDepth 100000 in
set_option maxHeartbeats 1600000 in
theorem step_ok (w : World) (n0 : Nat) (x : Dd) (h : Dk n0 w x) :
  Calls Tryz.prog 66 #[ptrV x.db] w fun e w' => e = .returned (.int .i64 (stepE x)) ∧ Dk n0 w' (stepF x) ∧ Kp (OnB x.db) w w' := by
 have H := zh h
 have HB := zh h.blk
 have c3 : w.cell? ⟨x.db, 3, none⟩ = some (.int .i64 x.steps) := by rw [h.blk.cell]; rfl
 have c4 : w.cell? ⟨x.db, 4, none⟩ = some (.int .i64 x.crash) := by rw [h.blk.cell]; rfl
 have c5 : w.cell? ⟨x.db, 5, none⟩ = some (.bool x.down) := by rw [h.blk.cell]; rfl
 have f3 := h.blk.frozen 3
 have f4 := h.blk.frozen 4
 have f5 := h.blk.frozen 5
 have hw2 : 0 < x.crash → IntKind.i64.wrap (x.crash - 1) = x.crash - 1 := fun hp => by rw [IntKind.wrap_i64]; have := h.c0; omega
 have hC := h.c0
 have hw1 : IntKind.i64.wrap (x.steps + 1) = wrp (x.steps + 1) := rfl
 clear h
 unfold ptrV
 rcases (show x.crash = 0 ∨ x.crash = 1 ∨ 1 < x.crash by omega) with hc | hc | hc
 ·have HC := zh hc
  rw [hc] at c4
  clear hw2 hC hc
  go_enter Tryz.func66, Tryz.ntmps66
  go_wp2_with fail
  go_ret
  have e1 : stepF x = { x with room := x.room, steps := wrp (x.steps + 1), crash := 0, down := x.down, starts := x.starts } := by unfold stepF; simp [HC.out]
  have kp : Kp (OnB x.db) w (w.setCell ⟨x.db, 3, none⟩ (.int .i64 (wrp (x.steps + 1)))) := (Kp.refl (OnB x.db) w).setAt (show OnB x.db x.db from rfl) _ _
  refine ⟨by unfold stepE; simp [HC.out], ?_, kp⟩
  rw [e1]
  refine H.out.numbers kp _ _ _ _ _ ?_ H.out.r0 (by omega)
  have hb := HB.out.set_ 3 (.int .i64 (wrp (x.steps + 1)))
  simpa [diskCells, HC.out] using hb
 ·have HC := zh hc
  have hw3 : IntKind.i64.wrap ((1 : Int) - 1) = 0 := by rw [IntKind.wrap_i64]; rfl
  rw [hc] at c4
  clear hw2 hC hc
  go_enter Tryz.func66, Tryz.ntmps66
  go_wp2_with fail
  go_ret
  have e1 : stepF x = { x with room := x.room, steps := wrp (x.steps + 1), crash := 0, down := true, starts := x.starts } := by unfold stepF; simp [HC.out]
  have kp : Kp (OnB x.db) w (((w.setCell ⟨x.db, 3, none⟩ (.int .i64 (wrp (x.steps + 1)))).setCell ⟨x.db, 4, none⟩ (.int .i64 0)).setCell ⟨x.db, 5, none⟩ (.bool true)) := (((Kp.refl (OnB x.db) w).setAt (show OnB x.db x.db from rfl) _ _).setAt (show OnB x.db x.db from rfl) _ _).setAt (show OnB x.db x.db from rfl) _ _
  refine ⟨by unfold stepE; simp [HC.out], ?_, kp⟩
  rw [e1]
  refine H.out.numbers kp _ _ _ _ _ ?_ H.out.r0 (by omega)
  have hb := ((HB.out.set_ 3 (.int .i64 (wrp (x.steps + 1)))).set_ 4 (.int .i64 0)).set_ 5 (.bool true)
  simpa [diskCells] using hb
 ·have HC := zh hc
  have HCC := zh hC
  have hw3 := hw2 (by omega)
  have hp : (0 : Int) < x.crash := by omega
  have hq : ¬ x.crash - 1 = 0 := by omega
  have hq2 : (x.crash - 1 == 0) = false := by simpa using hq
  clear hw2 hC hc
  go_enter Tryz.func66, Tryz.ntmps66
  go_wp2_with fail
  go_ret
  have hne : ¬ x.crash = 1 := by have := HC.out; omega
  have e1 : stepF x = { x with room := x.room, steps := wrp (x.steps + 1), crash := x.crash - 1, down := x.down, starts := x.starts } := by unfold stepF; simp [hne, hp]
  have kp : Kp (OnB x.db) w ((w.setCell ⟨x.db, 3, none⟩ (.int .i64 (wrp (x.steps + 1)))).setCell ⟨x.db, 4, none⟩ (.int .i64 (x.crash - 1))) := ((Kp.refl (OnB x.db) w).setAt (show OnB x.db x.db from rfl) _ _).setAt (show OnB x.db x.db from rfl) _ _
  refine ⟨by unfold stepE; simp [hne], ?_, kp⟩
  rw [e1]
  refine H.out.numbers kp _ _ _ _ _ ?_ H.out.r0 (by have := HCC.out; omega)
  have hb := ((HB.out.set_ 3 (.int .i64 (wrp (x.steps + 1)))).set_ 4 (.int .i64 (x.crash - 1)))
  simpa [diskCells] using hb
end
section
open Go.RowKit
theorem next_fact {n0 : Nat} {w w1 : World} {x : Dd} {D : DataW Value} (h : Dk n0 w x) (hM : MpD D x.fs) (kp : Kp NoB w w1) {s : ByteArray} {kl : Lit} {c : Option Addr} {y : DataW Value × List MemPlace}
  (hkey : keyOf Tryz.prog 9 (.string s) = some kl) (hv : Rp (.pointer c) = some y) (hat : ∀ zd, D.atKey kl zd = y.1) :
  ∃ e ∈ x.fs, kl = .string (kOf e.nm) ∧ c = some ⟨e.fb, 0, none⟩ ∧ ∃ A cap, w1.cell? ⟨e.fb, 0, none⟩ = some (.slice A e.seen.length cap) := by
 obtain ⟨p, ep, rfl⟩ := Rp_inv hv
 cases ep
 have hk : kl = .string (kOf s) := by
  by_cases hs : s.size ≤ maxLen
  ·rw [keyS s hs] at hkey
   exact (Option.some.inj hkey).symm
  ·have hu := Tryz.underlying9
   simp [keyOf, mapKey, hu] at hkey
   obtain ⟨_, rfl⟩ := hkey
   rfl
 subst hk
 cases hf : findF x.fs (kOf s) with
 | none =>
  have h1 := hat (.lit (.bool true))
  have h2 := hat (.lit (.bool false))
  rw [hM.at_, hf] at h1 h2
  rw [← h2] at h1
  simp at h1
 | some e =>
  obtain ⟨he, hk⟩ := findF_some hf
  have h1 := hat .nil
  rw [hM.at_, hf] at h1
  simp only [ptrV, DataW.held.injEq, Value.pointer.injEq] at h1
  obtain ⟨u, v, hb, hu, _⟩ := (h.fls e he).blk
  obtain ⟨A, cap, rfl⟩ := hu.form
  refine ⟨e, he, by rw [hk], h1.symm, A, cap, ?_⟩
  rw [kp.cell hb.lt (fun q => q), hb.cell]
  rfl
theorem keyS_inv {key : Value} {kl : Lit} (h : keyOf Tryz.prog 9 key = some kl) : ∃ s, key = .string s := by
 have hk := Tryz.underlying9
 cases key <;> simp [keyOf, hk, mapKey] at h
 exact ⟨_, rfl⟩
theorem seen_le {n0 : Nat} {w : World} {x : Dd} (h : Dk n0 w x) (s : ByteArray) : (seenOf x.fs s).length ≤ 1048576 := by
 unfold seenOf
 split
 ·rename_i e hf
  exact (h.fls e (findF_some hf).1).ls
 ·simp
set_option maxRecDepth 100000 in
set_option maxHeartbeats 1600000 in
theorem fits_ok (w : World) (n0 : Nat) (x : Dd) (p : Pl) (s : ByteArray) (n : Int) (hs : s.size ≤ maxLen) (hn : 0 ≤ n ∧ n ≤ 9223372036854775807) (h : Dk n0 w x) (hp : Of x p) :
  Calls Tryz.prog 67 #[ptrV x.db, .string s, .int .i64 n] w fun e w' => e = .returned (.int .i64 (p.fits s n)) ∧ Kp NoB w w' := by
 have H := zh h
 have HP := zh hp
 have HS := zh hs
 obtain ⟨D, hD, hM⟩ := h.mp
 have HD := zh hD
 have HM := zh hM
 have HB := zh h.blk
 have c0 : w.cell? ⟨x.db, 0, none⟩ = some (.map (some x.mb)) := by rw [h.blk.cell]; rfl
 obtain ⟨was, hwas⟩ : ∃ m, (seenOf x.fs s).length = m := ⟨_, rfl⟩
 have hwl := seen_le h s
 rw [hwas] at hwl
 have HW := zh hwas
 obtain ⟨db, hdb⟩ : ∃ db, x.db = db := ⟨_, rfl⟩
 have HX := zh hdb
 rw [hdb] at c0 ⊢
 have hw1 : IntKind.i64.wrap (n - (was : Int)) = n - was := by rw [IntKind.wrap_i64]; omega
 have HN := zh hn
 have HWL := zh hwl
 have HR := zh h.r0
 clear h hs hD hM hwas hdb hwl hp
 unfold ptrV
 go_enter Tryz.func67, Tryz.ntmps67
 go_wp2_with (first
  | (go_at_call 29; go_must (refine (show Calls _ _ #[ptrV db, .string s] _ _ by rw [← HX.out]; exact bytes_ok _ _ _ _ HS.out H.out).mono ?_); rintro e w2 ⟨A, cap, rfl, _, rfl⟩; rw [HW.out])
  | (at_range; refine wpList_range_own _ rfl _ 52 rfl 9 122 keyed Tryz.underlying52 Rp x.mb x.mn D rfl HD.out ?_; intro w0 hrg0 hg0 hs0))
 go_frame
 have HR0 := zh (show (∀ e ∈ x.fs, Maps.has D (.string (kOf e.nm)) = true) from fun e he => by rw [HM.out.has, H.out.names.find he]; rfl)
 have hsm0 : n - (was : Int) = wrp (n - was) := hw1.symm
 go_loopw [8, 10] (fun sum _ wr => ∃ (left : Lit → Bool) (cnt : Nat), wr.ranges Tryz.prog 9 Rp x.mb w2.heap.size x.mn D left cnt ∧ sum = .int .i64 (wrp (n - was + (restSum (fun k => left (.string k)) x.fs : Nat))) ∧ Kp NoB w2 wr) (fun _ _ wr => wr.rangeLeft x.mb w2.heap.size)
 case atStart => exact ⟨Maps.has D, Maps.size D, hrg0, by rw [restSum_none (fun e he => HR0.out e he)]; simp only [Int.natCast_zero, Int.add_zero]; rw [← hsm0], (Kp.refl NoB w2).grown hg0 (by simp)⟩
 case round =>
  obtain ⟨left, cnt, hrg, rfl, hkp⟩ := hrel
  have HRG := zh hrg
  have HK := zh hkp
  obtain ⟨sm, hsm⟩ : ∃ m, wrp (n - (was : Int) + (restSum (fun k => left (.string k)) x.fs : Nat)) = m := ⟨_, rfl⟩
  rw [hsm]
  have HSM := zh hsm
  clear hkp hrg0 hg0 hs0 hsm hsm0 hw1
  go_wp2_with (at_next; refine wpList_next_ranges _ rfl _ rfl 9 keyed Rp Value.string Value.pointer (fun key kl hk => keyS_inv hk) (fun v y hv => by obtain ⟨p, rfl, _⟩ := Rp_inv hv; exact ⟨p, rfl⟩) x.mb w2.heap.size x.mn D left cnt rfl hrg ?_ ?_)
  ·intro _ hl0
   have e1 : sm = wrp (n - (was : Int) + (allSum x.fs : Nat)) := by rw [← HSM.out, restSum_all (fun e _ => hl0 _)]
   have c2 : wr.cell? ⟨db, 2, none⟩ = some (.int .i64 x.room) := by rw [← HX.out, HK.out.cell HB.out.lt (fun q => q), HB.out.cell]; rfl
   have HF : Hid (p.fits s n = if 1048576 < n then 3 else if (was : Int) < n ∧ x.room < sm then 5 else 0) := zh (by unfold Pl.fits; rw [HP.out.seen, HP.out.sum, HP.out.room, HW.out, e1])
   clear hl0 e1 hrg
   by_cases h0 : (1048576 : Int) < n
   ·go_wp2_with fail
    go_ret
    exact ⟨by rw [HF.out, if_pos h0]; rfl, HK.out⟩
   ·by_cases h1 : (was : Int) < n
    ·by_cases h2 : x.room < sm
     ·go_wp2_with fail
      go_ret
      exact ⟨by rw [HF.out, if_neg (by omega), if_pos ⟨h1, h2⟩]; rfl, HK.out⟩
     ·go_wp2_with fail
      go_ret
      exact ⟨by rw [HF.out, if_neg (by omega), if_neg (fun q => by omega)]; rfl, HK.out⟩
    ·go_wp2_with fail
     go_ret
     exact ⟨by rw [HF.out, if_neg (by omega), if_neg (fun q => by omega)]; rfl, HK.out⟩
  ·intro x1 c kl a b w3 cnt3 hkey hlk hv hat hrg3 hlt hg3 hs3 hen
   have hk3 := HK.out.grown hg3 (fun k hk => .inl (by injection hk with hk; omega))
   obtain ⟨e, he, rfl, rfl, B, cp, ce⟩ := next_fact H.out HM.out hk3 hkey hv hat
   have HE := zh he
   have HLK := zh hlk
   have HK3 := zh hk3
   have HR3 := zh hrg3
   have HLT := zh hlt
   have hst := restSum_step H.out.names (left := fun k => left (.string k)) he hlk
   have hww : IntKind.i64.wrap (sm + (e.seen.length : Int)) = wrp (sm + e.seen.length) := rfl
   have HST : Hid (wrp (sm + (e.seen.length : Int)) = wrp (n - (was : Int) + (restSum (fun z => left (.string z) && !(z == kOf e.nm)) x.fs : Nat))) := zh (by rw [← HSM.out, hst, wrp_add]; congr 1; omega)
   clear he hlk hk3 hrg3 hlt hst hkey hv hat hrg hg3 hs3
   go_wp2_with fail
   exact ⟨⟨_, cnt3, HR3.out, by rw [HST.out]; rfl, HK3.out⟩, by rw [HR3.out.left_eq, HRG.out.left_eq]; exact HLT.out⟩
end
section
open Go.RowKit
theorem infoU8' : (Tryz.prog.info? 5).map (fun i => (i.zero, i.size, i.bytes)) = some (some (.int .u8 0), 1, 1) := by kernel_rfl
theorem sliceEqN (w : World) : (binOp .eql 68 (.slice none 0 0) (.slice none 0 0)).run Tryz.prog w = .ok (.bool true) w := by kernel_rfl
theorem sliceEqS (a : Addr) (m c : Nat) (w : World) : (binOp .eql 68 (.slice (some a) m c) (.slice none 0 0)).run Tryz.prog w = .ok (.bool false) w := by kernel_rfl
def ClonePost (w : World) (l : List Int) (e : Ending) (w' : World) : Prop := ∃ A cap, e = .returned (.slice A l.length cap) ∧ Bq w' w.heap.size (.slice A l.length cap) l ∧ Kp NoB w w'
theorem bq_src {w : World} {n0 : Nat} {A : Option Addr} {m cap : Nat} {l : List Int} (h : Bq w n0 (.slice A m cap) l) (hm : m = l.length) : 0 < l.length → ∃ g o, A = some ⟨g, o, none⟩ ∧ ∀ j u, (l.map (Value.int .u8))[j]? = some u → w.cell? ⟨g, o + j, none⟩ = some u := by
 intro hp
 subst hm
 obtain ⟨g, ds, e, _, hb⟩ := own_blk1 h.own hp
 refine ⟨g, 0, e, fun j u hj => ?_⟩
 rw [hb.cell, Nat.zero_add, List.getElem?_toArray]
 have := (List.getElem?_eq_some_iff.1 hj).1
 rw [List.getElem?_append_left this]
 exact hj
theorem u8_one (l : List Int) : ∀ u ∈ l.map (Value.int .u8), u.oneCell' = true := by
 intro u hu
 obtain ⟨x, _, rfl⟩ := List.mem_map.1 hu
 rfl
set_option maxRecDepth 100000 in
set_option maxHeartbeats 1600000 in
theorem clone_ok (w : World) (n0 : Nat) (A : Option Addr) (m cap : Nat) (l : List Int) (hm : m = l.length) (hl : l.length ≤ 1099511627776) (h : Bq w n0 (.slice A m cap) l) :
  Calls Tryz.prog 69 #[.slice A m cap] w (ClonePost w l) := by
 obtain ⟨j0, hj0, hy0, hy1, hy2⟩ := info_parts infoU8'
 have HJ0 := zh hj0
 have HY0 := zh hy0
 have HY1 := zh hy1
 have HY2 := zh hy2
 have H := zh h
 have HL := zh hl
 have HM := zh hm
 have qn := sliceEqN
 have qs := sliceEqS
 rcases A with _ | ⟨g, o, sp⟩
 ·have hf := own_form (by rw [hm] at h; exact h.own)
  obtain ⟨_, h0, h1⟩ : (none : Option Addr) = none ∧ l.length = 0 ∧ cap = 0 := by
   rcases hf with q | ⟨g, q⟩
   ·exact q
   ·cases q
  obtain rfl : l = [] := List.eq_nil_of_length_eq_zero h0
  simp only [List.length_nil] at hm
  subst hm h1
  clear h hl hj0 hy0 hy1 hy2 hf h0
  go_enter Tryz.func69, Tryz.ntmps69
  go_wp2_with fail
  go_ret
  exact ⟨none, 0, rfl, Bq.none _ _, Kp.refl _ _⟩
 ·have HOWN : Hid ((w.alloc (.cells #[] 5)).ownsRow w.heap.size 5 1 (.slice (some ⟨w.heap.size, 0, none⟩) 0 0) 0 []) := zh ⟨rfl, .inr ⟨w.heap.size, 0, #[], rfl, Nat.le_refl _, heap_alloc_new _ _, Nat.le_refl _, by simp, rfl, rfl⟩⟩
  clear h hl hj0 hy0 hy1 hy2 hm
  go_enter Tryz.func69, Tryz.ntmps69
  go_wp2_with (at_builtin; refine wpList_append_src rfl _ _ 68 rfl w.heap.size 5 j0 _ 1 Tryz.underlying68 HJ0.out HY0.out HY1.out HY2.out rfl _ 0 [] rfl HOWN.out (some ⟨g, o, sp⟩) m cap (l.map (Value.int .u8)) rfl (by simp) (by rw [List.length_map, HM.out]) (by have hq := bq_src (w := w.alloc (.cells #[] 5)) (n0 := n0) (A := some ⟨g, o, sp⟩) (m := m) (cap := cap) (l := l) (H.out.keep ((Kp.refl NoB w).alloc _) (fun _ _ _ q => q)) HM.out; rw [HM.out]; exact hq) (u8_one l) (by have := HL.out; have := HM.out; unfold maxLen; omega) (by have := HL.out; have := HM.out; omega) (by simp) ?_; intro v1 w1 hown1 hgrow1; rw [Nat.zero_add, List.nil_append] at hown1; obtain ⟨B, c, rfl⟩ := own_slice hown1; have HO1 := zh hown1; have HK1 := zh (((Kp.refl NoB w).alloc _).own (v := .slice (some ⟨w.heap.size, 0, none⟩) 0 0) hgrow1 rfl HOWN.out); clear hown1 hgrow1)
  go_ret
  exact ⟨B, c, by rw [← HM.out]; rfl, ⟨by rw [← HM.out]; exact HO1.out, H.out.rng⟩, HK1.out⟩
end
section
open Go.RowKit
theorem step_append_zeros {P : Program} {ops : Array Oper} {o : Oper} {a : Act} {w : World} {K : Act → World → Prop} {Q : Exit → Act → World → Prop} {E : Prop} (hgd : o.guard = none) (s x : Operand) (t tn : TypeId)
  (ho : o.op = .call { callee := .builtin .append, args := #[s, x], argTypes := #[t, tn] })
  (base : Nat) (e : TypeId) (i : TypeInfo) (z u : Value) (kq kn : IntKind) (ht : P.underlying t = some (.slice e)) (htn : P.underlying tn = some (.int kn)) (hi : P.info? e = some i) (hz : i.zero = some z)
  (hsize : i.size = 1) (hby : i.bytes = 1) (hzs : z.cells = #[u]) (hu : u.oneCell' = true)
  (v : Value) (n : Nat) (xs : List Value) (hs : a.eval s = v) (hown : w.ownsRow base e 1 v n xs) (k : Nat) (hx : a.eval x = .int kq k) (hk : 0 < k) (hb : n + k ≤ 1099511627776) (hbase : base ≤ w.heap.size)
  (h : ∀ v' w', w'.ownsRow base e 1 v' (n + k) (xs ++ List.replicate k u) → w.grownBy w' v.ownBlock → (∀ b, v'.ownBlock = some b → v.ownBlock = some b ∨ w.heap.size ≤ b) → K (a.put o.dst v') w') :
  if Region.wanted o (yielded ops a.tmps) = true then Oper.wp P o a w K Q else E := by
 have hw : Region.wanted o (yielded ops a.tmps) = true := by simp [Region.wanted, hgd]
 rw [if_pos hw]
 obtain ⟨v', w', hr, h1, h2, h3⟩ := append_zeros_own (P := P) w base t tn o.type e i z u kq kn ht htn hi hz hsize hby hzs hu v n xs hown k hk hb hbase
 exact Lib.wp_append_run w s x t tn ho _ _ hs hx v' w' hr (h v' w' h1 h2 h3)
theorem Bq.take {w : World} {n0 : Nat} {A : Option Addr} {m cap : Nat} {l : List Int} (h : Bq w n0 (.slice A m cap) l) (n : Nat) (hn : n ≤ l.length) : Bq w n0 (.slice A n cap) (l.take n) := by
 refine ⟨?_, fun x hx => h.rng x (List.mem_of_mem_take hx)⟩
 have hl : (l.take n).length = n := by simp; omega
 rw [hl]
 refine ⟨by simp; omega, ?_⟩
 rcases h.own.2 with ⟨e, h0⟩ | ⟨g, cap', cur, hv, hb, hh, h1, h2, h3, h4⟩
 ·simp only [Value.slice.injEq] at e
  obtain ⟨rfl, _, rfl⟩ := e
  have : n = 0 := by omega
  subst this
  exact .inl ⟨rfl, rfl⟩
 ·simp only [Value.slice.injEq] at hv
  obtain ⟨rfl, _, rfl⟩ := hv
  refine .inr ⟨g, cap, cur, rfl, hb, hh, by omega, h2, h3, ?_⟩
  rw [Nat.mul_one] at h4 ⊢
  rw [List.map_take, ← h4, List.take_take, Nat.min_eq_left hn]
theorem Bq.mono {w : World} {n0 n1 : Nat} {v : Value} {l : List Int} (h : Bq w n0 v l) (hn : n1 ≤ n0) : Bq w n1 v l := ⟨h.own.mono hn, h.rng⟩
theorem Bq.drew {w : World} {n0 : Nat} {v : Value} {l : List Int} (h : Bq w n0 v l) : Bq w.drew n0 v l := ⟨h.own, h.rng⟩
def GrowPost (w : World) (n0 fb o n : Nat) (cs : Array Value) (l : List Int) (w' : World) : Prop :=
 ∃ A cap, Blk w' fb 128 (cs.setIfInBounds o (.slice A n cap)) ∧ Bq w' n0 (.slice A n cap) (sizedF l n) ∧ Kp (OnB fb) w w'
set_option maxRecDepth 100000 in
set_option maxHeartbeats 1600000 in
theorem grow_ok (w : World) (n0 fb o : Nat) (cs : Array Value) (A : Option Addr) (m cap : Nat) (l : List Int) (n : Nat) (hm : l.length = m) (hl : m ≤ 1048576) (hn : n ≤ 1048576) (hn0 : n0 ≤ w.heap.size)
  (hb : Blk w fb 128 cs) (hc : cs[o]? = some (.slice A m cap)) (hq : Bq w n0 (.slice A m cap) l) :
  Calls Tryz.prog 105 #[.pointer (some ⟨fb, o, none⟩), .int .i64 n] w fun e w' => e = .returned (.tuple #[]) ∧ GrowPost w n0 fb o n cs l w' := by
 have HB := zh hb
 have HQ := zh hq
 have HM := zh hm
 have HN0 := zh hn0
 have c0 : w.cell? ⟨fb, o, none⟩ = some (.slice A m cap) := by rw [hb.cell]; exact hc
 have z0 := hb.frozen o
 have hmc : m ≤ cap := own_cap (show w.ownsRow n0 5 1 (.slice A m cap) m (l.map (Value.int .u8)) by have := hq.own; rwa [hm] at this)
 clear hb hc hq hm hn0
 by_cases hle : (n : Int) ≤ m
 ·have hnc : n ≤ cap := by omega
  have hnl : n ≤ m := by omega
  have HNL := zh hnl
  have HLN : Hid ((l.take n).length = n) := zh (by rw [List.length_take, HM.out]; exact Nat.min_eq_left hnl)
  go_enter Tryz.func105, Tryz.ntmps105
  go_wp2_with (go_at_call 69; go_must (refine (clone_ok w n0 A n cap (l.take n) (by rw [List.length_take, HM.out]; exact (Nat.min_eq_left HNL.out).symm) (by simp; omega) (HQ.out.take n (by rw [HM.out]; exact HNL.out))).mono ?_); rintro e w2 ⟨B, c2', rfl, hq2, hk2⟩; rw [HLN.out] at hq2 ⊢; have HQ2 := zh hq2; have HK2 := zh hk2; have z2 := (HB.out.keep hk2 (fun q => q)).frozen o; have c2 : w2.cell? ⟨fb, o, none⟩ = some (.slice A m cap) := (by rw [hk2.cell HB.out.lt (fun q => q)]; exact c0); clear hq2 hk2)
  refine bodyPost_ret (results_none rfl _ _ _) rfl ⟨rfl, B, c2', ?_, ?_, ?_⟩
  ·exact (HB.out.keep HK2.out (fun q => q)).set_ o (.slice B n c2')
  ·have hsz : sizedF l n = l.take n := by unfold sizedF; rw [if_pos (by rw [HM.out]; exact HNL.out)]
   rw [hsz]
   exact (HQ2.out.mono HN0.out).keep ((Kp.refl (OnB fb) w2).setAt rfl o (.slice B n c2')) (fun g cs' hc q => onb_cells (HB.out.keep HK2.out (fun q => q)) hc (by decide) q)
  ·exact (HK2.out.mono (S' := OnB fb) (fun _ _ q => q.elim)).setAt rfl _ _
 ·obtain ⟨k, hk⟩ : ∃ k, n - m = k := ⟨_, rfl⟩
  obtain ⟨N, hN⟩ : ∃ N : Int, (n : Int) = N := ⟨_, rfl⟩
  obtain ⟨j0, hj0, hy0, hy1, hy2⟩ := info_parts infoU8'
  have HJ0 := zh hj0
  have HY0 := zh hy0
  have HY1 := zh hy1
  have HY2 := zh hy2
  have HKN := zh (show n = m + k ∧ 0 < k ∧ m + k ≤ 1099511627776 by omega)
  have HLL := zh (show l.length ≤ 1099511627776 by rw [HM.out]; omega)
  have hw : IntKind.i64.wrap (N - (m : Int)) = (k : Int) := by rw [IntKind.wrap_i64]; omega
  have g1 : ¬ N ≤ (m : Int) := by omega
  rw [hN]
  have HNN := zh hN
  clear hle hk hN hl hn hj0 hy0 hy1 hy2
  go_enter Tryz.func105, Tryz.ntmps105
  go_wp2_with fail
  go_region_law (first
   | (refine step_append_zeros (by rfl) (.tmp 26) (.tmp 33) 68 3 (by rfl) w.heap.size 5 j0 (.int .u8 0) (.int .u8 0) .i64 .i64 Tryz.underlying68 Tryz.underlying3 HJ0.out HY0.out HY1.out HY2.out rfl rfl (.slice B m c2') m (l.map (Value.int .u8)) (by rfl) HO2.out k (by rfl) HKN.out.2.1 HKN.out.2.2 HK2.out.size ?_; intro v3 w3 hown3 hgrow3 _; obtain ⟨C, c3, rfl⟩ := own_slice hown3; have HO3 := zh hown3; have hk3 := HK2.out.own (v := .slice B m c2') hgrow3 rfl HO2.out; have HK3 := zh hk3; have z3 := (HB.out.keep hk3 (fun q => q)).frozen o; have c3' : w3.cell? ⟨fb, o, none⟩ = some (.slice A m cap) := (by rw [hk3.cell HB.out.lt (fun q => q)]; exact c0); clear hown3 hgrow3 hk3)
   | (go_simp; go_at_call 69; go_must (refine (clone_ok w.drew n0 A m cap l HM.out.symm HLL.out HQ.out.drew).mono ?_); rintro e w2 ⟨B, c2', rfl, hq2, hk2⟩; rw [HM.out] at hq2 ⊢; have HO2 := zh (show w2.ownsRow w.heap.size 5 1 (.slice B m c2') m (l.map (Value.int .u8)) by have := hq2.own; rwa [HM.out] at this); have HK2 := zh ((Kp.refl NoB w).drew.trans hk2 (fun _ _ q => q)); have z2 := (HB.out.keep HK2.out (fun q => q)).frozen o; have c2 : w2.cell? ⟨fb, o, none⟩ = some (.slice A m cap) := (by rw [HK2.out.cell HB.out.lt (fun q => q)]; exact c0); clear hq2 hk2)
   | go_simp)
  all_goals
   obtain ⟨rfl, hk0, _⟩ := HKN.out
   have e1 : sizedF l (m + k) = l ++ List.replicate k 0 := by unfold sizedF; rw [if_neg (by rw [HM.out]; omega), HM.out, Nat.add_sub_cancel_left]
   have hq3 : Bq w3 n0 (.slice C (m + k) c3) (sizedF l (m + k)) := ⟨by rw [sizedF_len, e1, List.map_append, List.map_replicate]; exact HO3.out.mono HN0.out, sizedF_rng HQ.out.rng _⟩
   refine bodyPost_end (results_none rfl _ _ _) rfl ⟨rfl, C, c3, ?_, ?_, ?_⟩
   ·exact (HB.out.keep HK3.out (fun q => q)).set_ o (.slice C (m + k) c3)
   ·exact hq3.keep ((Kp.refl (OnB fb) w3).setAt rfl o (.slice C (m + k) c3)) (fun g cs' hc q => onb_cells (HB.out.keep HK3.out (fun q => q)) hc (by decide) q)
   ·exact (HK3.out.mono (S' := OnB fb) (fun _ _ q => q.elim)).setAt rfl _ _
end
section
open Go.RowKit
theorem seenOf_put (fs : List Fe) (e : Fe) : seenOf (putF fs e) = upd (seenOf fs) e.nm e.seen := by
 funext t
 unfold seenOf upd
 rw [putF_find]
 by_cases h : t = e.nm
 ·subst h; simp
 ·rw [if_neg h, if_neg (fun q => h (kOf_inj q).symm)]
theorem keptOf_put (fs : List Fe) (e : Fe) : keptOf (putF fs e) = upd (keptOf fs) e.nm e.kept := by
 funext t
 unfold keptOf upd
 rw [putF_find]
 by_cases h : t = e.nm
 ·subst h; simp
 ·rw [if_neg h, if_neg (fun q => h (kOf_inj q).symm)]
theorem seenOf_cons (y : Fe) (r : List Fe) (s : ByteArray) : seenOf (y :: r) s = if kOf y.nm = kOf s then y.seen else seenOf r s := by
 unfold seenOf findF
 by_cases h : kOf y.nm = kOf s <;> simp [h, List.find?_cons]
theorem keptOf_cons (y : Fe) (r : List Fe) (s : ByteArray) : keptOf (y :: r) s = if kOf y.nm = kOf s then y.kept else keptOf r s := by
 unfold keptOf findF
 by_cases h : kOf y.nm = kOf s <;> simp [h, List.find?_cons]
theorem allSum_put (fs : List Fe) (e : Fe) : ((allSum (putF fs e) : Nat) : Int) = (allSum fs : Nat) - (seenOf fs e.nm).length + e.seen.length := by
 induction fs with
 | nil => simp [putF, allSum, seenOf, findF]
 | cons y r ih =>
  rw [seenOf_cons]
  unfold putF
  by_cases h : kOf y.nm = kOf e.nm
  ·rw [if_pos h, if_pos h]
   simp only [allSum, List.map_cons, List.sum_cons]
   omega
  ·rw [if_neg h, if_neg h]
   simp only [allSum, List.map_cons, List.sum_cons] at ih ⊢
   omega
theorem allKept_put (fs : List Fe) (e : Fe) : ((allKept (putF fs e) : Nat) : Int) = (allKept fs : Nat) - (keptOf fs e.nm).length + e.kept.length := by
 induction fs with
 | nil => simp [putF, allKept, keptOf, findF]
 | cons y r ih =>
  rw [keptOf_cons]
  unfold putF
  by_cases h : kOf y.nm = kOf e.nm
  ·rw [if_pos h, if_pos h]
   simp only [allKept, List.map_cons, List.sum_cons]
   omega
  ·rw [if_neg h, if_neg h]
   simp only [allKept, List.map_cons, List.sum_cons] at ih ⊢
   omega
theorem Of.put {x : Dd} {p : Pl} (h : Of x p) (e : Fe) (m k : Nat) (hm : m ≤ k) :
  Of { x with fs := putF x.fs e, mn := m } { p with seen := upd p.seen e.nm e.seen, kept := upd p.kept e.nm e.kept, sum := p.sum - (p.seen e.nm).length + e.seen.length, ksum := p.ksum - (p.kept e.nm).length + e.kept.length, nf := k } :=
 {h with
  seen := by simp only [h.seen, seenOf_put]
  kept := by simp only [h.kept, keptOf_put]
  sum := by simp only [h.seen, h.sum]; rw [allSum_put]
  ksum := by simp only [h.kept, h.ksum]; rw [allKept_put]
  nf := hm }
theorem Pl.put_same (p : Pl) (s : ByteArray) (a b : List Int) (ha : a = p.seen s) (hb : b = p.kept s) (k : Nat) :
  ({ p with seen := upd p.seen s a, kept := upd p.kept s b, sum := p.sum - (p.seen s).length + a.length, ksum := p.ksum - (p.kept s).length + b.length, nf := k } : Pl) = { p with nf := k } := by
 subst ha hb
 simp only [upd_self]
 congr 1 <;> omega
theorem Of.at_ {x : Dd} {p : Pl} (h : Of x p) (e : Fe) (m : Nat) (hm : m ≤ x.mn + 1) (hs : e.seen = seenOf x.fs e.nm) (hk : e.kept = keptOf x.fs e.nm) : Of { x with fs := putF x.fs e, mn := m } p.at_ := by
 have := h.put e m (p.nf + 1) (by have := h.nf; omega)
 rw [Pl.put_same p e.nm e.seen e.kept (by rw [h.seen]; exact hs) (by rw [h.kept]; exact hk)] at this
 exact this
theorem Of.seen_eq {x : Dd} {p : Pl} (h : Of x p) (s : ByteArray) : seenOf x.fs s = p.seen s := by rw [h.seen]
theorem Of.kept_eq {x : Dd} {p : Pl} (h : Of x p) (s : ByteArray) : keptOf x.fs s = p.kept s := by rw [h.kept]
theorem Of.setSeen {x : Dd} {p : Pl} (h : Of x p) (e : Fe) (hk : e.kept = keptOf x.fs e.nm) : Of { x with fs := putF x.fs e } (p.setSeen e.nm e.seen) := by
 have := h.put e x.mn p.nf h.nf
 have e1 : p.ksum - (p.kept e.nm).length + e.kept.length = p.ksum := by rw [hk, h.kept]; omega
 have e2 : upd p.kept e.nm e.kept = p.kept := by rw [hk, ← h.kept, upd_self]
 rw [e1, e2] at this
 exact this
theorem Of.setKept {x : Dd} {p : Pl} (h : Of x p) (e : Fe) (hk : e.seen = seenOf x.fs e.nm) : Of { x with fs := putF x.fs e } (p.setKept e.nm e.kept) := by
 have := h.put e x.mn p.nf h.nf
 have e1 : p.sum - (p.seen e.nm).length + e.seen.length = p.sum := by rw [hk, h.seen]; omega
 have e2 : upd p.seen e.nm e.seen = p.seen := by rw [hk, ← h.seen, upd_self]
 rw [e1, e2] at this
 exact this
def To (n0 : Nat) (w : World) (x : Dd) (p' : Pl) (w' : World) : Prop :=
 ∃ x', Dk n0 w' x' ∧ Of x' p' ∧ x'.db = x.db ∧ Kp x.O w w' ∧ ∀ b, x'.O b → x.O b ∨ w.heap.size ≤ b
theorem To.refl {n0 : Nat} {w : World} {x : Dd} {p : Pl} (h : Dk n0 w x) (hp : Of x p) : To n0 w x p w := ⟨x, h, hp, rfl, Kp.refl _ _, fun _ q => .inl q⟩
theorem To.trans {n0 : Nat} {w w1 w2 : World} {x x1 : Dd} {p2 : Pl} (h : To n0 w1 x1 p2 w2) (hdb : x1.db = x.db) (k : Kp x.O w w1) (ho : ∀ b, x1.O b → x.O b ∨ w.heap.size ≤ b) : To n0 w x p2 w2 := by
 obtain ⟨x2, hd, hof, e, k2, ho2⟩ := h
 refine ⟨x2, hd, hof, e.trans hdb, k.trans k2 (fun i hi q => ?_), fun b hb => ?_⟩
 ·rcases ho i q with q | q
  ·exact q
  ·omega
 ·rcases ho2 b hb with q | q
  ·exact ho b q
  ·exact .inr (Nat.le_trans k.size q)
theorem To.quiet {n0 : Nat} {w w1 w2 : World} {x : Dd} {p2 : Pl} (h : To n0 w1 x p2 w2) (k : Kp NoB w w1) (hx : Dk n0 w x) : To n0 w x p2 w2 :=
 h.trans rfl (k.mono (fun _ _ q => q.elim)) (fun _ q => .inl q)
end
section
open Go.RowKit
theorem infoCg : (Tryz.prog.info? 121).map (fun i => (i.zero, i.size, i.bytes)) = some (some (.agg ((#[.string ⟨#[]⟩, .int .i64 0, .int .i64 0] : Array Value) ++ Array.replicate 64 (.int .u8 0))), 67, 96) := by kernel_rfl
def cgL (s : ByteArray) (sec n : Int) (l : List Int) : List Value := .string s :: .int .i64 sec :: .int .i64 n :: l.map (Value.int .u8)
def cgA (s : ByteArray) (sec n : Int) (l : List Int) : Array Value := (cgL s sec n l).toArray
theorem cgA_size (s : ByteArray) (sec n : Int) (l : List Int) : (cgA s sec n l).size = l.length + 3 := by simp [cgA, cgL]
theorem cgA_one (s : ByteArray) (sec n : Int) (l : List Int) : ∀ u ∈ cgL s sec n l, u.oneCell' = true := by
 intro u hu
 unfold cgL at hu
 simp only [List.mem_cons] at hu
 rcases hu with rfl | rfl | rfl | hu
 ·rfl
 ·rfl
 ·rfl
 ·exact u8_one l u hu
theorem buildCg3 (w : World) (s : ByteArray) (sec n : Int) : (Instr.build 121 #[(0, .string s), (1, .int .i64 sec), (2, .int .i64 n)]).run Tryz.prog w = .ok (.agg (cgA s sec n (zeros 64))) w := by kernel_rfl
theorem buildCg2 (w : World) (s : ByteArray) (sec : Int) : (Instr.build 121 #[(0, .string s), (1, .int .i64 sec)]).run Tryz.prog w = .ok (.agg (cgA s sec 0 (zeros 64))) w := by kernel_rfl
theorem exBuildCg3 (w : World) (ev : Operand → Value) (x y z : Operand) (s : ByteArray) (sec n : Int) (ds : Option Tmp) (ty : TypeId) (ps : String) (af : Array Edge) (g : Option (Nat × Bool)) (hx : ev x = .string s) (hy : ev y = .int .i64 sec) (hz : ev z = .int .i64 n) :
  (execOp ev ⟨ds, .build 121 #[(0, x), (1, y), (2, z)], ty, ps, af, g⟩).run Tryz.prog w = .ok (.value (.agg (cgA s sec n (zeros 64)))) w := by
 simp only [execOp, List.map_toArray, List.map_cons, List.map_nil, hx, hy, hz, Sem.run_bind, buildCg3, Result.andThen_ok]
 rfl
theorem exBuildCg2 (w : World) (ev : Operand → Value) (x y : Operand) (s : ByteArray) (sec : Int) (ds : Option Tmp) (ty : TypeId) (ps : String) (af : Array Edge) (g : Option (Nat × Bool)) (hx : ev x = .string s) (hy : ev y = .int .i64 sec) :
  (execOp ev ⟨ds, .build 121 #[(0, x), (1, y)], ty, ps, af, g⟩).run Tryz.prog w = .ok (.value (.agg (cgA s sec 0 (zeros 64)))) w := by
 simp only [execOp, List.map_toArray, List.map_cons, List.map_nil, hx, hy, Sem.run_bind, buildCg2, Result.andThen_ok]
 rfl
theorem sliceCg (w : World) (cs : Array Value) (hs : cs.size = 67) : (Instr.buildSlice 53 1 #[(0, .agg cs)]).run Tryz.prog w = .ok (.slice (some ⟨w.heap.size, 0, none⟩) 1 1) (w.alloc (.cells cs 121)) := by
 obtain ⟨i, hi, h0, h1, h2⟩ := info_parts infoCg
 have hu := Tryz.underlying53
 have hz : (zeroValue 121).run Tryz.prog w = .ok (.agg (cgA ⟨#[]⟩ 0 0 (zeros 64))) w := by kernel_rfl
 have hc : (Value.agg cs).cells = cs := rfl
 have hf : ∀ Z : Array Value, Z.size = 67 → Instr.fill (fun i => some (i * 67, 67)) Z [(0, .agg cs)] = some cs := fun Z hZ => by
  have := Go.Great.fill_whole (s := 67) (by omega) [.agg cs] Z (by simp [hc, hs]) (by simp [hZ])
  simpa [hc] using this
 simp [Instr.buildSlice, run_underlying hu, sizeOf, typeInfo, hi, h1, hz, newRow, newObj]
 rw [hf _ (by simp)]
 rfl
theorem exSliceCg (w : World) (ev : Operand → Value) (x : Operand) (cs : Array Value) (ds : Option Tmp) (ty : TypeId) (ps : String) (af : Array Edge) (g : Option (Nat × Bool)) (hx : ev x = .agg cs) (hs : cs.size = 67) :
  (execOp ev ⟨ds, .buildSlice 53 1 #[(0, x)], ty, ps, af, g⟩).run Tryz.prog w = .ok (.value (.slice (some ⟨w.heap.size, 0, none⟩) 1 1)) (w.alloc (.cells cs 121)) := by
 simp only [execOp, List.map_toArray, List.map_cons, List.map_nil, hx, Sem.run_bind, sliceCg w cs hs, Result.andThen_ok]
 rfl
theorem infoCgS : (Tryz.prog.info? 121).map (·.size) = some 67 := by kernel_rfl
theorem zeroCg (w : World) : (zeroValue 121).run Tryz.prog w = .ok (.agg (cgA ⟨#[]⟩ 0 0 (zeros 64))) w := by kernel_rfl
theorem loadCg (w : World) (ev : Operand → Value) (ds : Option Tmp) (x : Operand) (ty : TypeId) (ps : String) (af : Array Edge) (g : Option (Nat × Bool)) (h : thereP w (ev x) 67) :
  (execOp ev ⟨ds, .load 121 x, ty, ps, af, g⟩).run Tryz.prog w = .ok (.value (.agg (readP w (ev x) 67))) w := execLoad_P Tryz.underlying121 rfl infoCgS w ev ds x ty ps af g h
theorem storeCg (w : World) (ev : Operand → Value) (ds : Option Tmp) (x y : Operand) (ty : TypeId) (ps : String) (af : Array Edge) (g : Option (Nat × Bool)) (hv : aggOK (ev y) 67) (h : thereP w (ev x) 67) :
  (execOp ev ⟨ds, .store 121 x y, ty, ps, af, g⟩).run Tryz.prog w = .ok .skip (setP w (ev x) (ev y)) := execStore_P infoCgS w ev ds x y ty ps af g hv h
theorem allocCg (w : World) (ev : Operand → Value) (ds : Option Tmp) (ty : TypeId) (ps : String) (af : Array Edge) (g : Option (Nat × Bool)) :
  (execOp ev ⟨ds, .alloc 121, ty, ps, af, g⟩).run Tryz.prog w = .ok (.value (.pointer (some ⟨w.heap.size, 0, none⟩))) (w.alloc (.cells (cgA ⟨#[]⟩ 0 0 (zeros 64)) 121)) := by
 simp only [execOp, Instr.alloc, Sem.run_bind, zeroCg, Result.andThen_ok]
 rfl
theorem cgA_ones (s : ByteArray) (sec n : Int) (l : List Int) : ones (cgA s sec n l) := by
 unfold ones cgA
 simp only [List.all_toArray', List.all_eq_true]
 exact cgA_one s sec n l
end
section
open Go.RowKit
section
variable {P : Program}
theorem append_block (w : World) (base : Nat) (t ty e : TypeId) (i : TypeInfo) (z : Value) (size bytes : Nat) (ht : P.underlying t = some (.slice e)) (hi : P.info? e = some i) (hz : i.zero = some z)
  (hsize : i.size = size) (hby : i.bytes = bytes) (hsz : 0 < size) (v : Value) (n : Nat) (xs : List Value) (hown : w.ownsRow base e size v n xs)
  (a : Addr) (m c : Nat) (news : List Value) (hl : news.length = m * size) (hnews : ∀ j u, news[j]? = some u → w.cell? (a.add j) = some u) (h1 : ∀ u ∈ news, u.oneCell' = true)
  (h63 : n + m ≤ maxLen) (hbytes : (n + m) * bytes ≤ 140737488355328) {v' : Value} {w' : World} (hr : (Builtin.append_ #[t, t] ty #[v, .slice (some a) m c]).run P w = .ok v' w') :
  ∀ b, v'.ownBlock = some b → v.ownBlock = some b ∨ w.heap.size ≤ b := by
 intro b hb
 subst hsize hby
 unfold maxLen at h63
 rcases hown.2 with ⟨rfl, rfl⟩ | ⟨g, cap, cur, rfl, hbg, hg, hnc, hcm, hcs, htake⟩
 ·have hx : xs = [] := List.eq_nil_of_length_eq_zero (by simpa using hown.1)
  subst hx
  by_cases hm : m = 0
  ·subst hm
   have hn : news = [] := List.eq_nil_of_length_eq_zero (by simpa using hl)
   subst hn
   simp [Builtin.append_, run_underlying ht, sizeOf, typeInfo, hi, Builtin.lenOf, Builtin.firstCells, loadCells, loadCellsFrom] at hr
   rw [← hr.1] at hb
   cases hb
  ·have hq := run_append_nil (P := P) w t ty e i z ht hi hz a m c news hl hnews (by omega) (by omega) (by have hb := hbytes; simp only [Nat.zero_add] at hb; omega)
   rw [hq] at hr
   injection hr with hv _
   rw [← hv] at hb
   simp only [Value.ownBlock, Option.some.injEq] at hb
   exact .inr (by omega)
 ·by_cases hroom : n + m ≤ cap
  ·have hfit : n * i.size + news.length ≤ cur.size := by rw [hl, hcs, ← Nat.add_mul]; exact Nat.mul_le_mul_right _ hroom
   have hq := run_append_room (P := P) w t ty e i ht hi g n cap cur hg a m c news hl hnews h1 hroom hfit
   rw [hq] at hr
   injection hr with hv _
   rw [← hv] at hb
   exact .inl hb
  ·have hq := run_append_grow (P := P) w t ty e i z ht hi hz ⟨g, 0, none⟩ n cap xs hown.1 (hown.cells (g := g) rfl) a m c news hl hnews (by omega) (by omega) (growslice_fits (by omega) hbytes)
   rw [hq] at hr
   injection hr with hv _
   rw [← hv] at hb
   simp only [Value.ownBlock, Option.some.injEq] at hb
   exact .inr (by omega)
theorem wp_append_ownB {w : World} {o : Oper} {a : Act} {K : Act → World → Prop} {Q : Exit → Act → World → Prop} (s x : Operand) (t : TypeId)
  (ho : o.op = .call { callee := .builtin .append, args := #[s, x], argTypes := #[t, t] })
  (base : Nat) (e : TypeId) (i : TypeInfo) (z : Value) (size bytes : Nat) (ht : P.underlying t = some (.slice e)) (hi : P.info? e = some i) (hz : i.zero = some z)
  (hsize : i.size = size) (hby : i.bytes = bytes) (hzs : z.cells.size = size) (hsz : 0 < size)
  (v : Value) (n : Nat) (xs : List Value) (hs : a.eval s = v) (hown : w.ownsRow base e size v n xs)
  (ad : Addr) (m c : Nat) (news : List Value) (hx : a.eval x = .slice (some ad) m c) (hl : news.length = m * size) (hnews : ∀ j u, news[j]? = some u → w.cell? (ad.add j) = some u) (h1 : ∀ u ∈ news, u.oneCell' = true)
  (h63 : n + m ≤ maxLen) (hbytes : (n + m) * bytes ≤ 140737488355328) (hbase : base ≤ w.heap.size)
  (h : ∀ v' w', w'.ownsRow base e size v' (n + m) (xs ++ news) → w.grownBy w' v.ownBlock → (∀ b, v'.ownBlock = some b → v.ownBlock = some b ∨ w.heap.size ≤ b) → K (a.put o.dst v') w') : o.wp P a w K Q := by
 obtain ⟨v', w', hr, h2, h3, h4⟩ := run_append_own (P := P) w base t o.type e i z size bytes ht hi hz hsize hby hzs hsz v n xs hown ad m c news hl hnews h1 h63 hbytes hbase
 have hb := append_block w base t o.type e i z size bytes ht hi hz hsize hby hsz v n xs hown ad m c news hl hnews h1 h63 hbytes hr
 unfold Oper.wp execOp
 simp only [ho, resolve, invoke, builtin, Sem.run_bind, Sem.run_pure, Result.andThen_ok, List.map_toArray, List.map_cons, List.map_nil, hs, hx, hr]
 exact h v' w' h2 h3 hb
theorem wpList_append_ownB {w : World} {ops : Array Oper} {rest : List Oper} {o : Oper} {a : Act} {Q : Exit → Act → World → Prop} (hgd : o.guard = none) (s x : Operand) (t : TypeId)
  (ho : o.op = .call { callee := .builtin .append, args := #[s, x], argTypes := #[t, t] })
  (base : Nat) (e : TypeId) (i : TypeInfo) (z : Value) (size bytes : Nat) (ht : P.underlying t = some (.slice e)) (hi : P.info? e = some i) (hz : i.zero = some z)
  (hsize : i.size = size) (hby : i.bytes = bytes) (hzs : z.cells.size = size) (hsz : 0 < size)
  (v : Value) (n : Nat) (xs : List Value) (hs : a.eval s = v) (hown : w.ownsRow base e size v n xs)
  (ad : Addr) (m c : Nat) (news : List Value) (hx : a.eval x = .slice (some ad) m c) (hl : news.length = m * size) (hnews : ∀ j u, news[j]? = some u → w.cell? (ad.add j) = some u) (h1 : ∀ u ∈ news, u.oneCell' = true)
  (h63 : n + m ≤ maxLen) (hbytes : (n + m) * bytes ≤ 140737488355328) (hbase : base ≤ w.heap.size)
  (h : ∀ v' w', w'.ownsRow base e size v' (n + m) (xs ++ news) → w.grownBy w' v.ownBlock → (∀ b, v'.ownBlock = some b → v.ownBlock = some b ∨ w.heap.size ≤ b) → wpList P ops Q rest (a.put o.dst v') w') : wpList P ops Q (o :: rest) a w :=
 wpList_plain hgd fun _ hK => wp_append_ownB s x t ho base e i z size bytes ht hi hz hsize hby hzs hsz v n xs hs hown ad m c news hx hl hnews h1 h63 hbytes hbase fun v' w' h2 h3 h4 => hK _ _ (h v' w' h2 h3 h4)
end
end
section
open Go.RowKit
theorem fb_inj {fs : List Fe} (hp : fs.Pairwise fun a b => a.fb ≠ b.fb) {a b : Fe} (ha : a ∈ fs) (hb : b ∈ fs) (h : a.fb = b.fb) : a = b := by
 induction fs with
 | nil => simp at ha
 | cons y r ih =>
  obtain ⟨h1, h2⟩ := List.pairwise_cons.1 hp
  rcases List.mem_cons.1 ha with rfl | ha'
  ·rcases List.mem_cons.1 hb with rfl | hb'
   ·rfl
   ·exact absurd h (h1 b hb')
  ·rcases List.mem_cons.1 hb with rfl | hb'
   ·exact absurd h.symm (h1 a ha')
   ·exact ih h2 ha' hb'
theorem Dk.refile {n0 : Nat} {w w' : World} {x : Dd} (h : Dk n0 w x) {e : Fe} (he : e ∈ x.fs) (k : Kp (OnB e.fb) w w') (e' : Fe) (hnm : e'.nm = e.nm) (hfb : e'.fb = e.fb) (hok : FeOk w' n0 e') : Dk n0 w' { x with fs := putF x.fs e' } := by
 obtain ⟨D, hD, hM⟩ := h.mp
 obtain ⟨u, v, hb, _⟩ := (h.fls e he).blk
 have cne : ∀ g cs t, w.heap[g]? = some (.cells cs t (0, 0)) → 128 ≠ t → ¬ OnB e.fb g := fun g cs t hg hne => onb_cells hb hg hne
 have hmb : ¬ OnB e.fb x.mb := by
  intro q
  obtain ⟨es, cl, hm, _⟩ := hD
  have := hb
  unfold Blk at this
  rw [← show x.mb = e.fb from q, hm] at this
  cases this
 have hf : findF x.fs (kOf e.nm) = some e := h.names.find he
 exact { h with
  blk := h.blk.keep k (cne _ _ _ h.blk (by decide))
  mp := ⟨D, k.map hD hmb, hM.same fun s => by
   rw [putF_find]
   by_cases hs : kOf e'.nm = s
   ·rw [if_pos hs, ← hs, hnm, hf]; simp [hfb]
   ·rw [if_neg hs]⟩
  names := putF_names h.names _
  fbs := putF_fbs h.fbs h.names (fun y hy hne => by
   intro q
   have := fb_inj h.fbs hy he (q.trans hfb)
   rw [this, hnm] at hne
   exact hne rfl)
  fls := fun y hy => by
   rcases putF_mem hy with rfl | ⟨hm, hne⟩
   ·exact hok
   ·refine (h.fls y hm).keep k (fun q => ?_) (fun g cs hc => cne g cs _ hc (by decide))
    have := fb_inj h.fbs hm he q
    exact hne h.names (by rw [this, hnm])
  pend := own_keepB h.pend k (fun g hg => by obtain ⟨cs, hc⟩ := own_type h.pend hg; exact cne _ _ _ hc (by decide))
  b2 := fun y hy => by
   rcases putF_mem hy with rfl | ⟨hm, _⟩
   ·rw [hfb]; exact h.b2 e he
   ·exact h.b2 y hm }
theorem Dk.pended {n0 : Nat} {w w' : World} {x : Dd} (h : Dk n0 w x) (k : Kp (fun b => b = x.db ∨ x.pv.ownBlock = some b) w w') (pv : Value) (pd : List Cg)
  (hb : Blk w' x.db 55 (diskCells { x with pv := pv })) (ho : w'.ownsRow n0 121 67 pv pd.length (cgCells pd)) (hs : ∀ c ∈ pd, CgOk c) : Dk n0 w' { x with pv := pv, pd := pd } := by
 obtain ⟨D, hD, hM⟩ := h.mp
 have cne : ∀ g cs t, w.heap[g]? = some (.cells cs t (0, 0)) → 55 ≠ t → 121 ≠ t → ¬ (g = x.db ∨ x.pv.ownBlock = some g) := by
  rintro g cs t hg h1 h2 (rfl | hq)
  ·exact blk_ne h.blk hg h1 rfl
  ·obtain ⟨cs', hc⟩ := own_type h.pend hq
   rw [hc] at hg
   simp only [Option.some.injEq, Obj.cells.injEq] at hg
   exact h2 hg.2.1
 have hmb : ¬ (x.mb = x.db ∨ x.pv.ownBlock = some x.mb) := by
  obtain ⟨es, cl, hm, _⟩ := hD
  rintro (q | q)
  ·have := h.blk
   unfold Blk at this
   rw [← q, hm] at this
   cases this
  ·obtain ⟨cs', hc⟩ := own_type h.pend q
   rw [hm] at hc
   cases hc
 exact { h with
  blk := hb
  mp := ⟨D, k.map hD hmb, hM⟩
  fls := fun e he => (h.fls e he).keep k (by obtain ⟨u, v, hb', _⟩ := (h.fls e he).blk; exact cne _ _ _ hb' (by decide) (by decide)) (fun g cs hc => cne g cs _ hc (by decide) (by decide))
  pend := ho
  s64 := hs }
attribute [local go_sem ↓] exBuildCg3 exBuildCg2 exSliceCg
theorem cgCells_add (pd : List Cg) (c : Cg) : cgCells (pd ++ [c]) = cgCells pd ++ cgL c.nm c.sec c.n (pad64 c.s) := cgCells_snoc pd c
theorem cgA_new (w : World) (s : ByteArray) (sec n : Int) (l : List Int) : ∀ j u, (cgL s sec n l)[j]? = some u → (w.alloc (.cells (cgA s sec n l) 121)).cell? ((⟨w.heap.size, 0, none⟩ : Addr).add j) = some u := by
 intro j u hj
 rw [add_mk, Nat.zero_add, (Blk.new w 121 (cgA s sec n l)).cell]
 simpa [cgA] using hj
theorem O_at {w w' : World} {n0 : Nat} {x : Dd} (h : Dk n0 w x) {e0 : Fe} {m : Nat} (hk : Kp (OnB x.mb) w w') (hfb : (∃ q ∈ x.fs, q.fb = e0.fb) ∨ w.heap.size ≤ e0.fb) :
  Kp x.O w w' ∧ ∀ b, ({ x with fs := putF x.fs e0, mn := m } : Dd).O b → x.O b ∨ w.heap.size ≤ b := by
 refine ⟨hk.mono (fun b _ q => .inr (.inl q)), ?_⟩
 rintro b (q | q | q | ⟨e, he, rfl⟩)
 ·exact .inl (.inl q)
 ·exact .inl (.inr (.inl q))
 ·exact .inl (.inr (.inr (.inl q)))
 ·rcases putF_mem he with rfl | ⟨hm, _⟩
  ·rcases hfb with ⟨y, hy, e1⟩ | q
   ·exact .inl (.inr (.inr (.inr ⟨y, hy, e1.symm⟩)))
   ·exact .inr q
  ·exact .inl (.inr (.inr (.inr ⟨e, hm, rfl⟩)))
theorem O_put {x : Dd} {e : Fe} (h : ∃ q ∈ x.fs, q.fb = e.fb) : ∀ b, ({ x with fs := putF x.fs e } : Dd).O b → x.O b := by
 rintro b (q | q | q | ⟨y, hy, rfl⟩)
 ·exact .inl q
 ·exact .inr (.inl q)
 ·exact .inr (.inr (.inl q))
 ·rcases putF_mem hy with rfl | ⟨hm, _⟩
  ·obtain ⟨z, hz, e1⟩ := h
   exact .inr (.inr (.inr ⟨z, hz, e1.symm⟩))
  ·exact .inr (.inr (.inr ⟨y, hm, rfl⟩))
theorem Dk.blk1 {n0 : Nat} {w w1 : World} {x : Dd} (h : Dk n0 w x) {o : Obj} (hg : (w.alloc o).grownBy w1 x.pv.ownBlock) : Blk w1 x.db 55 (diskCells x) := by
 have k1 : Kp (fun b => x.pv.ownBlock = some b) w w1 := ((Kp.refl _ w).alloc _).grown hg (fun k q => .inr q)
 refine h.blk.keep k1 (fun q => ?_)
 obtain ⟨cs', hc'⟩ := own_type h.pend q
 exact blk_ne h.blk hc' (by decide) rfl
theorem Dk.pendX {n0 : Nat} {w w1 : World} {x : Dd} (h : Dk n0 w x) {s : ByteArray} {sec n : Int} {l : List Int} (hc : CgOk ⟨s, sec, n, l⟩) {pv : Value} {cs : Array Value}
  (hown : w1.ownsRow n0 121 67 pv (x.pd.length + 1) (cgCells x.pd ++ cgL s sec n (pad64 l))) (hg : (w.alloc (.cells cs 121)).grownBy w1 x.pv.ownBlock)
  (hb : ∀ b, pv.ownBlock = some b → x.pv.ownBlock = some b ∨ (w.alloc (.cells cs 121)).heap.size ≤ b) :
  Dk n0 (w1.setCell ⟨x.db, 1, none⟩ pv) { x with pv := pv, pd := x.pd ++ [⟨s, sec, n, l⟩] } ∧ Kp (fun b => b = x.db ∨ x.pv.ownBlock = some b) w (w1.setCell ⟨x.db, 1, none⟩ pv) ∧ ∀ b, pv.ownBlock = some b → x.pv.ownBlock = some b ∨ w.heap.size ≤ b := by
 have k1 : Kp (fun b => x.pv.ownBlock = some b) w w1 := ((Kp.refl _ w).alloc _).grown hg (fun k q => .inr q)
 have hdb : ¬ x.pv.ownBlock = some x.db := by
  intro q
  obtain ⟨cs', hc'⟩ := own_type h.pend q
  exact blk_ne h.blk hc' (by decide) rfl
 have hB : Blk w1 x.db 55 (diskCells x) := h.blk.keep k1 hdb
 have k2 : Kp (fun b => b = x.db ∨ x.pv.ownBlock = some b) w (w1.setCell ⟨x.db, 1, none⟩ pv) := (k1.mono (S' := fun b => b = x.db ∨ x.pv.ownBlock = some b) (fun _ _ q => .inr q)).setAt (.inl rfl) _ _
 have hsz : (w.alloc (.cells cs 121)).heap.size = w.heap.size + 1 := by simp
 refine ⟨h.pended k2 pv (x.pd ++ [⟨s, sec, n, l⟩]) (by
  have := hB.set_ 1 pv
  simpa [diskCells] using this) (by
  rw [cgCells_add, List.length_append]
  refine own_keepB hown ((Kp.refl (OnB x.db) w1).setAt rfl 1 pv) (fun g hg' q => ?_)
  obtain ⟨cs', hc'⟩ := own_type hown hg'
  rw [show g = x.db from q] at hc'
  exact blk_ne hB hc' (by decide) rfl) (fun c hc' => by
  rcases List.mem_append.1 hc' with q | q
  ·exact h.s64 c q
  ·rw [List.mem_singleton.1 q]; exact hc), k2, fun b q => ?_⟩
 rcases hb b q with q | q
 ·exact .inl q
 ·exact .inr (by omega)
theorem O_pend {w : World} {x : Dd} {pv : Value} {pd : List Cg} (hb : ∀ b, pv.ownBlock = some b → x.pv.ownBlock = some b ∨ w.heap.size ≤ b) : ∀ b, ({ x with pv := pv, pd := pd } : Dd).O b → x.O b ∨ w.heap.size ≤ b := by
 rintro b (q | q | q | q)
 ·exact .inl (.inl q)
 ·exact .inl (.inr (.inl q))
 ·rcases hb b q with q | q
  ·exact .inl (.inr (.inr (.inl q)))
  ·exact .inr q
 ·exact .inl (.inr (.inr (.inr q)))
theorem Kp.pendO {w w' : World} {x : Dd} (k : Kp (fun b => b = x.db ∨ x.pv.ownBlock = some b) w w') : Kp x.O w w' := k.mono (fun b _ q => by
 rcases q with q | q
 ·exact .inl q
 ·exact .inr (.inr (.inl q)))
theorem Dk.pend1 {n0 : Nat} {w w1 : World} {x : Dd} (h : Dk n0 w x) {p : Pl} (hp : Of x p) {s : ByteArray} {sec n : Int} {l : List Int} (hc : CgOk ⟨s, sec, n, l⟩) {pv : Value} {cs : Array Value}
  (hown : w1.ownsRow n0 121 67 pv (x.pd.length + 1) (cgCells x.pd ++ cgL s sec n (pad64 l))) (hg : (w.alloc (.cells cs 121)).grownBy w1 x.pv.ownBlock)
  (hb : ∀ b, pv.ownBlock = some b → x.pv.ownBlock = some b ∨ (w.alloc (.cells cs 121)).heap.size ≤ b) :
  To n0 w x (p.pend [⟨s, sec, n, l⟩]) (w1.setCell ⟨x.db, 1, none⟩ pv) := by
 obtain ⟨hd, k2, hb2⟩ := h.pendX hc hown hg hb
 exact ⟨_, hd, { hp with pd := by simp only [Pl.pend, hp.pd] }, rfl, k2.pendO, O_pend hb2⟩
set_option maxRecDepth 100000 in
set_option maxHeartbeats 800000 in
theorem length_ok (w : World) (n0 : Nat) (x : Dd) (p : Pl) (s : ByteArray) (n : Nat) (hs : s.size ≤ maxLen) (hm : p.nf < 1099511627776) (hpd : p.pd.length < 1099511627776) (hn : n ≤ 1048576) (hn0 : n0 ≤ w.heap.size) (h : Dk n0 w x) (hp : Of x p) :
  Calls Tryz.prog 68 #[ptrV x.db, .string s, .int .i64 n] w fun e w' => e = .returned (.tuple #[]) ∧ To n0 w x (p.length s n) w' := by
 have H := zh h
 have HP := zh hp
 have HS := zh hs
 have HN0 := zh hn0
 have HPD := zh hpd
 have hsl := seen_le h s
 obtain ⟨l, hl⟩ : ∃ l, seenOf x.fs s = l := ⟨_, rfl⟩
 have HL := zh hl
 rw [hl] at hsl
 obtain ⟨m, hml⟩ : ∃ m, l.length = m := ⟨_, rfl⟩
 have HML := zh hml
 rw [hml] at hsl
 have HMN : Hid (x.mn < 1099511627776) := zh (by have := hp.nf; omega)
 obtain ⟨db, hdb⟩ : ∃ db, x.db = db := ⟨_, rfl⟩
 have HX := zh hdb
 rw [hdb]
 clear h hs hn0 hpd hl hml hdb hm hp
 by_cases hnm : n = m
 ·subst hnm
  unfold ptrV
  go_enter Tryz.func68, Tryz.ntmps68
  go_wp2_with fail
  refine (show Calls _ _ #[ptrV db, .string s] _ _ by rw [← HX.out]; exact at_ok _ n0 x s HS.out HMN.out HN0.out H.out).mono ?_
  rintro e w2 ⟨e0, m2, rfl, hd2, hm2, hnm2, hsn2, hkp2, hk2, hfb2⟩
  rw [HL.out] at hsn2
  have HD2 := zh hd2
  have HE2 := zh (show m2 ≤ x.mn + 1 ∧ e0.nm = s ∧ e0.seen = l ∧ e0.kept = keptOf x.fs s from ⟨hm2, hnm2, hsn2, hkp2⟩)
  have HK2 := zh hk2
  have HFB := zh hfb2
  have HF0 := zh (findF_some (show findF (putF x.fs e0) (kOf e0.nm) = some e0 by rw [putF_find, if_pos rfl])).1
  obtain ⟨u, v, hb, hu, hv⟩ := (hd2.fls e0 HF0.out).blk
  obtain ⟨A, cap, rfl⟩ := hu.form
  rw [hsn2, HML.out] at hu hb
  have c1 : w2.cell? ⟨e0.fb, 0, none⟩ = some (.slice A n cap) := by rw [hb.cell]; rfl
  rw [show ptrV e0.fb = .pointer (some ⟨e0.fb, 0, none⟩) from rfl]
  clear hb hu hv hd2 hm2 hnm2 hsn2 hkp2 hk2 hfb2
  go_wp2_with fail
  have hO := O_at (m := m2) H.out HK2.out HFB.out
  refine bodyPost_end (results_none rfl _ _ _) rfl ⟨rfl, _, HD2.out, ?_, rfl, hO.1, hO.2⟩
  unfold Pl.length
  rw [if_pos (by rw [← HP.out.seen_eq, HL.out, HML.out])]
  exact HP.out.at_ e0 m2 HE2.out.1 (by rw [HE2.out.2.1, HE2.out.2.2.1, HL.out]) (by rw [HE2.out.2.1, HE2.out.2.2.2])
 ·have hne : ((n : Int) != m) = true := by rw [bne_iff_ne]; omega
  obtain ⟨j0, hj0, hy0, hy1, hy2⟩ := info_parts infoCg
  have HJ0 := zh hj0
  have HY0 := zh hy0
  have HY1 := zh hy1
  have HY2 := zh hy2
  have HN := zh hn
  have HSL := zh hsl
  have HNM := zh hnm
  clear hj0 hy0 hy1 hy2
  clear hnm
  unfold ptrV
  go_enter Tryz.func68, Tryz.ntmps68
  go_wp2_with fail
  refine (show Calls _ _ #[ptrV db, .string s] _ _ by rw [← HX.out]; exact at_ok _ n0 x s HS.out HMN.out HN0.out H.out).mono ?_
  rintro e w2 ⟨e0, m2, rfl, hd2, hm2, hnm2, hsn2, hkp2, hk2, hfb2⟩
  rw [HL.out] at hsn2
  have HD2 := zh hd2
  have HE2 := zh (show m2 ≤ x.mn + 1 ∧ e0.nm = s ∧ e0.seen = l ∧ e0.kept = keptOf x.fs s from ⟨hm2, hnm2, hsn2, hkp2⟩)
  have HK2 := zh hk2
  have HFB := zh hfb2
  have HF0 := zh (findF_some (show findF (putF x.fs e0) (kOf e0.nm) = some e0 by rw [putF_find, if_pos rfl])).1
  have HO2 := zh (O_at (m := m2) H.out hk2 hfb2)
  have HP2 := zh (HP.out.at_ e0 m2 hm2 (by rw [hsn2, hnm2, HL.out]) (by rw [hkp2, hnm2]))
  obtain ⟨u, v, hb, hu, hv⟩ := (hd2.fls e0 HF0.out).blk
  obtain ⟨A, cap, rfl⟩ := hu.form
  rw [hsn2, HML.out] at hu hb
  have HB2 := zh hb
  have HU := zh hu
  have HV := zh hv
  have c1 : w2.cell? ⟨e0.fb, 0, none⟩ = some (.slice A m cap) := by rw [hb.cell]; rfl
  rw [show ptrV e0.fb = .pointer (some ⟨e0.fb, 0, none⟩) from rfl]
  clear hb hu hv hd2 hm2 hnm2 hsn2 hkp2 hk2 hfb2
  go_wp2_with fail
  refine (grow_ok w2 n0 e0.fb 0 _ A m cap l n HML.out HSL.out HN.out (Nat.le_trans HN0.out HK2.out.size) HB2.out rfl HU.out).mono ?_
  rintro e w3 ⟨rfl, B, c2, hb3, hq3, hk3⟩
  have hd3 := HD2.out.refile HF0.out hk3 { e0 with seen := sizedF l n } rfl rfl ⟨⟨.slice B n c2, v, by simpa using hb3, by simp only [sizedF_len]; exact hq3, HV.out.keep hk3 (fun g cs hc q => onb_cells HB2.out hc (by decide) q)⟩, by simp only [sizedF_len]; exact HN.out, (HD2.out.fls e0 HF0.out).lk⟩
  have HD3 := zh hd3
  have HK3 := zh hk3
  have c30 : w3.cell? ⟨db, 1, none⟩ = some x.pv := by rw [← HX.out, hd3.blk.cell]; rfl
  have z30 : w3.frozen? ⟨db, 1, none⟩ = false := by rw [← HX.out]; exact hd3.blk.frozen 1
  have HPV := zh hd3.pend
  have HLT := zh hd3.blk.lt
  have HBDB := zh hd3.blk
  have cz : ∀ s sec n, (cgA s sec n (zeros 64)).size = 67 := fun s sec n => by rw [cgA_size]; rfl
  have hn03 : n0 ≤ w3.heap.size := Nat.le_trans HN0.out (Nat.le_trans HK2.out.size HK3.out.size)
  have HN3 := zh hn03
  have HPD2 : Hid (x.pd.length < 1099511627776) := zh (by rw [← HP.out.pd]; exact HPD.out)
  have HP3 := zh (HP2.out.setSeen { e0 with seen := sizedF l n } (by simp only [keptOf_put, upd_same]))
  have HCG : Hid (CgOk ⟨s, -1, n, []⟩) := zh ⟨.inl ⟨rfl, rfl, by simp, by have := HN.out; simp; omega⟩, by simp, HS.out⟩
  clear hb3 hq3 hk3 hd3 c1 hn03
  go_wp2_with (at_builtin; refine wpList_append_ownB rfl _ _ 53 rfl n0 121 j0 _ 67 96 Tryz.underlying53 HJ0.out HY0.out HY1.out HY2.out rfl (by omega) _ x.pd.length (cgCells x.pd) rfl (HPV.out.kept (World.grownBy_alloc _ _ none) (by cases x.pv.ownBlock <;> simp)) ⟨w3.heap.size, 0, none⟩ 1 1 (cgL s (-1) n (zeros 64)) rfl rfl (cgA_new w3 _ _ _ _) (cgA_one _ _ _ _) (by have := HPD2.out; unfold maxLen; omega) (by have := HPD2.out; omega) (by simp; have := HN3.out; omega) ?_; intro v4 w4 hown4 hgrow4 hb4; have hbb := HD3.out.blk1 hgrow4; obtain ⟨A4, k4, rfl⟩ := own_slice hown4; have HT4 := zh (HD3.out.pend1 HP3.out HCG.out hown4 hgrow4 hb4); have c4 : w4.cell? ⟨db, 1, none⟩ = some x.pv := (by rw [← HX.out, hbb.cell]; rfl); have z4 : w4.frozen? ⟨db, 1, none⟩ = false := (by rw [← HX.out]; exact hbb.frozen 1); clear hown4 hgrow4 hb4 hbb)
  refine bodyPost_end (results_none rfl _ _ _) rfl ⟨rfl, ?_⟩
  have hF := HF0.out
  have k3 : Kp x.O w w3 := HO2.out.1.trans HK3.out (fun i hi q => by
   rcases HO2.out.2 i (.inr (.inr (.inr ⟨e0, hF, q⟩))) with q | q
   ·exact q
   ·omega)
  have hT := HT4.out.trans (w := w) (x := x) rfl k3 (fun b hb => HO2.out.2 b (O_put (x := { x with fs := putF x.fs e0, mn := m2 }) (e := { e0 with seen := sizedF l n }) ⟨e0, hF, rfl⟩ b hb))
  have e1 : p.length s n = (p.at_.setSeen s (sizedF l n)).pend [⟨s, -1, n, []⟩] := by
   unfold Pl.length
   rw [← HP.out.seen_eq, HL.out, if_neg (by rw [HML.out]; intro q; subst q; simp at hne)]
  rw [e1, ← HX.out]
  have e2 : e0.nm = s := HE2.out.2.1
  rw [e2] at hT
  exact hT
end
section
open Go.RowKit
theorem wrong_p (w : World) (n0 : Nat) (x : Dd) (p : Pl) (h : Dk n0 w x) (hp : Of x p) (d : Bool) (hd : p.down = d) : Calls Tryz.prog 28 #[ptrV x.db] w fun e w' => e = .returned (.int .i64 (if d then 7 else 0)) ∧ w = w' := by
 have := wrong_ok w n0 x h
 rw [← hp.down, hd] at this
 exact this
theorem step_p (w : World) (n0 : Nat) (x : Dd) (p : Pl) (h : Dk n0 w x) (hp : Of x p) :
  Calls Tryz.prog 66 #[ptrV x.db] w fun e w' => e = .returned (.int .i64 p.stepE) ∧ To n0 w x p.step w' :=
 (step_ok w n0 x h).mono fun e w' ⟨he, hd, hk⟩ => ⟨by rw [he]; unfold stepE Pl.stepE; rw [hp.crash], stepF x, hd, { hp with steps := by simp only [Pl.step, stepF, hp.steps], crash := by simp only [Pl.step, stepF, hp.crash], down := by simp only [Pl.step, stepF, hp.crash, hp.down] }, rfl, hk.mono (fun _ _ q => .inl q), fun b hb => .inl hb⟩
def WrPost (n0 : Nat) (w : World) (x : Dd) (p : Pl) (s : ByteArray) (a : Int) (d : List Int) (e : Ending) (w' : World) : Prop := e = .returned (.int .i64 (p.writeE s a d)) ∧ To n0 w x (p.write s a d) w'
set_option maxRecDepth 100000 in
set_option maxHeartbeats 800000 in
theorem write_down (w : World) (n0 : Nat) (x : Dd) (p : Pl) (s : ByteArray) (a : Int) (d : ByteArray) (h : Dk n0 w x) (hp : Of x p) (hd : p.down = true) :
  Calls Tryz.prog 25 #[ptrV x.db, .string s, .int .i64 a, .string d] w (WrPost n0 w x p s a (strI d)) := by
 have H := zh h
 have HP := zh hp
 have HD := zh hd
 obtain ⟨db, hdb⟩ : ∃ db, x.db = db := ⟨_, rfl⟩
 have HX := zh hdb
 rw [hdb]
 clear h hp hd hdb
 unfold ptrV
 go_enter Tryz.func25, Tryz.ntmps25
 go_wp2_with (go_at_call 28; go_must (refine (show Calls _ _ #[ptrV db] _ _ by rw [← HX.out]; exact wrong_p _ n0 x p H.out HP.out true HD.out).mono ?_); rintro e w2 ⟨rfl, rfl⟩)
 go_ret
 exact ⟨by unfold Pl.writeE; simp [HD.out], by unfold Pl.write; simp only [HD.out, true_or, if_true]; exact To.refl H.out HP.out⟩
set_option maxRecDepth 100000 in
set_option maxHeartbeats 800000 in
theorem write_neg (w : World) (n0 : Nat) (x : Dd) (p : Pl) (s : ByteArray) (a : Int) (d : ByteArray) (h : Dk n0 w x) (hp : Of x p) (hd : p.down = false) (ha : a < 0) :
  Calls Tryz.prog 25 #[ptrV x.db, .string s, .int .i64 a, .string d] w (WrPost n0 w x p s a (strI d)) := by
 have H := zh h
 have HP := zh hp
 have HD := zh hd
 obtain ⟨db, hdb⟩ : ∃ db, x.db = db := ⟨_, rfl⟩
 have HX := zh hdb
 rw [hdb]
 clear h hp hd hdb
 unfold ptrV
 go_enter Tryz.func25, Tryz.ntmps25
 go_wp2_with (go_at_call 28; go_must (refine (show Calls _ _ #[ptrV db] _ _ by rw [← HX.out]; exact wrong_p _ n0 x p H.out HP.out false HD.out).mono ?_); rintro e w2 ⟨rfl, rfl⟩)
 go_ret
 exact ⟨by unfold Pl.writeE; simp [HD.out, ha], by unfold Pl.write; simp only [HD.out, ha, true_or, or_true, if_true]; exact To.refl H.out HP.out⟩
set_option maxRecDepth 100000 in
set_option maxHeartbeats 800000 in
theorem write_long (w : World) (n0 : Nat) (x : Dd) (p : Pl) (s : ByteArray) (a : Int) (d : ByteArray) (h : Dk n0 w x) (hp : Of x p) (hd : p.down = false) (ha : 0 ≤ a) (hds : d.size ≤ maxLen) (hl : 1048576 < a ∨ 1048576 - a < d.size) :
  Calls Tryz.prog 25 #[ptrV x.db, .string s, .int .i64 a, .string d] w (WrPost n0 w x p s a (strI d)) := by
 have H := zh h
 have HP := zh hp
 have HD := zh hd
 have HL := zh hl
 obtain ⟨db, hdb⟩ : ∃ db, x.db = db := ⟨_, rfl⟩
 have HX := zh hdb
 rw [hdb]
 unfold maxLen at hds
 have hna : ¬ a < 0 := by omega
 have fin : ∀ w2, w = w2 → WrPost n0 w x p s a (strI d) (.returned (.int .i64 3)) w2 := by
  rintro w2 rfl
  have hl' := HL.out
  exact ⟨by unfold Pl.writeE; simp only [HD.out, strI_len]; rw [if_neg (by simp), if_neg hna, if_pos hl'], by unfold Pl.write; simp only [HD.out, strI_len]; rw [if_pos (.inr (.inr hl'))]; exact To.refl H.out HP.out⟩
 have FIN := zh fin
 clear h hp hd hdb hl fin
 unfold ptrV
 by_cases h1 : 1048576 < a
 ·go_enter Tryz.func25, Tryz.ntmps25
  go_wp2_with (go_at_call 28; go_must (refine (show Calls _ _ #[ptrV db] _ _ by rw [← HX.out]; exact wrong_p _ n0 x p H.out HP.out false HD.out).mono ?_); rintro e w2 ⟨rfl, rfl⟩)
  go_ret
  exact FIN.out _ rfl
 ·have h2 : 1048576 - a < d.size := by have := HL.out; omega
  go_enter Tryz.func25, Tryz.ntmps25
  go_wp2_with (go_at_call 28; go_must (refine (show Calls _ _ #[ptrV db] _ _ by rw [← HX.out]; exact wrong_p _ n0 x p H.out HP.out false HD.out).mono ?_); rintro e w2 ⟨rfl, rfl⟩)
  go_ret
  exact FIN.out _ rfl
set_option maxRecDepth 100000 in
set_option maxHeartbeats 800000 in
theorem write_none (w : World) (n0 : Nat) (x : Dd) (p : Pl) (s : ByteArray) (a : Int) (d : ByteArray) (h : Dk n0 w x) (hp : Of x p) (hd : p.down = false) (ha : 0 ≤ a) (ha2 : a ≤ 1048576) (hz : d.size = 0) :
  Calls Tryz.prog 25 #[ptrV x.db, .string s, .int .i64 a, .string d] w (WrPost n0 w x p s a (strI d)) := by
 obtain rfl : d = ⟨#[]⟩ := by
  cases d with | mk a => simp [ByteArray.size] at hz; simp [hz]
 have H := zh h
 have HP := zh hp
 have HD := zh hd
 obtain ⟨db, hdb⟩ : ∃ db, x.db = db := ⟨_, rfl⟩
 have HX := zh hdb
 rw [hdb]
 have hna : ¬ a < 0 := by omega
 have fin : ∀ w2, To n0 w x p.step w2 → WrPost n0 w x p s a (strI ⟨#[]⟩) (.returned (.int .i64 p.stepE)) w2 := by
  intro w2 h2
  have e0 : strI ⟨#[]⟩ = [] := rfl
  rw [e0]
  exact ⟨by unfold Pl.writeE; simp only [HD.out, List.length_nil]; rw [if_neg (by simp), if_neg hna, if_neg (by omega)]; simp, by unfold Pl.write; simp only [HD.out, List.length_nil]; rw [if_neg (by simp; omega)]; simpa using h2⟩
 have FIN := zh fin
 clear h hp hd hdb hz fin
 unfold ptrV
 go_enter Tryz.func25, Tryz.ntmps25
 go_wp2_with (first
  | (go_at_call 28; go_must (refine (show Calls _ _ #[ptrV db] _ _ by rw [← HX.out]; exact wrong_p _ n0 x p H.out HP.out false HD.out).mono ?_); rintro e w2 ⟨rfl, rfl⟩)
  | (go_at_call 66; go_must (refine (show Calls _ _ #[ptrV db] _ _ by rw [← HX.out]; exact step_p _ n0 x p H.out HP.out).mono ?_); rintro e w3 ⟨rfl, ht3⟩; have HT := zh ht3; clear ht3))
 go_ret
 exact FIN.out _ HT.out
end
section
open Go.RowKit
theorem str_empty1 (s : ByteArray) : s.toList.isEmpty = decide (s.size = 0) := by
 have h : s.toList = s.data.toList := ByteArray.toList_eq s
 rw [h]
 have : s.size = s.data.toList.length := by simp
 rw [this]
 cases s.data.toList <;> simp
theorem str_empty0 {d : ByteArray} (h : 0 < d.size) : d.toList.isEmpty = false := by
 rw [str_empty1]
 exact decide_eq_false (by omega)
set_option maxRecDepth 100000 in
set_option maxHeartbeats 800000 in
theorem write_full (w : World) (n0 : Nat) (x : Dd) (p : Pl) (s : ByteArray) (a : Int) (d : ByteArray) (h : Dk n0 w x) (hp : Of x p) (hs : s.size ≤ maxLen) (hd : p.down = false) (ha : 0 ≤ a) (ha2 : a + d.size ≤ 1048576) (hz : 0 < d.size)
  (hf : p.fits s (max (a + d.size) (p.seen s).length) ≠ 0) :
  Calls Tryz.prog 25 #[ptrV x.db, .string s, .int .i64 a, .string d] w (WrPost n0 w x p s a (strI d)) := by
 have H := zh h
 have HP := zh hp
 have HD := zh hd
 have HS := zh hs
 obtain ⟨db, hdb⟩ : ∃ db, x.db = db := ⟨_, rfl⟩
 have HX := zh hdb
 rw [hdb]
 have hna : ¬ a < 0 := by omega
 have ha3 : ¬ 1048576 < a := by omega
 have ha4 : ¬ 1048576 - a < d.size := by omega
 obtain ⟨f, hff⟩ : ∃ f, p.fits s (max (a + d.size) (p.seen s).length) = f := ⟨_, rfl⟩
 rw [hff] at hf
 have HF := zh hff
 have hf2 : (f != 0) = true := by simpa using hf
 have HF2 := zh hf
 obtain ⟨was, hwas⟩ : ∃ m, (seenOf x.fs s).length = m := ⟨_, rfl⟩
 have hwl := seen_le h s
 rw [hwas] at hwl
 have HW := zh hwas
 have hne := str_empty0 hz
 have HMX := zh (show (a + d.size < was → p.fits s was = f) ∧ (was ≤ a + d.size → p.fits s (a + d.size) = f) by
  rw [← HP.out.seen_eq, HW.out] at HF
  exact ⟨fun q => by rw [← HF.out, Int.max_eq_right (by omega)], fun q => by rw [← HF.out, Int.max_eq_left (by omega)]⟩)
 clear h hp hd hdb hff hf hs hwas
 unfold ptrV
 go_enter Tryz.func25, Tryz.ntmps25
 go_wp2_with (first
  | (go_at_call 28; go_must (refine (show Calls _ _ #[ptrV db] _ _ by rw [← HX.out]; exact wrong_p _ n0 x p H.out HP.out false HD.out).mono ?_); rintro e w2 ⟨rfl, rfl⟩)
  | (go_at_call 29; go_must (refine (show Calls _ _ #[ptrV db, .string s] _ _ by rw [← HX.out]; exact bytes_ok _ _ _ _ HS.out H.out).mono ?_); rintro e w3 ⟨B, cap, rfl, _, rfl⟩; rw [HW.out])
  | (go_at_call 67; go_must (refine (show Calls _ _ #[ptrV db, .string s, .int .i64 _] _ _ by rw [← HX.out]; exact fits_ok _ n0 x p s _ HS.out (by omega) H.out HP.out).mono ?_); rintro e w4 ⟨rfl, hk4⟩; (first | rw [HMX.out.1 (by omega)] | rw [HMX.out.2 (by omega)]); have HK4 := zh hk4; clear hk4))
 all_goals
  go_ret
  refine ⟨?_, ?_⟩
  ·unfold Pl.writeE
   simp only [HD.out, strI_len]
   rw [if_neg (by simp), if_neg (by omega), if_neg (by omega), if_neg (by rw [← List.length_eq_zero_iff, strI_len]; omega), HF.out, if_pos HF2.out]
   rfl
  ·unfold Pl.write
   simp only [HD.out, strI_len]
   rw [if_neg (by simp; omega), if_neg (by rw [← List.length_eq_zero_iff, strI_len]; omega), HF.out, if_pos HF2.out]
   exact (To.refl (H.out.keep HK4.out (fun _ _ q => q) (fun _ _ _ q => q)) HP.out).quiet HK4.out H.out
end
end Go.Proofs.YtegcbdfilkecpaaGreat
