/- Texts of this proof, one behind the other: lemmas and contracts; each says its own conditions. -/
import Derived.Test.YtegcbdfilkecpaaGreatQ1
import Derived.Test.YtegcbdfilkecpaaGreatQ2
import Derived.Test.YtegcbdfilkecpaaGreatQ4
import Derived.Deep.OwnRows
import Derived.BigQuiet
namespace Go.Proofs.YtegcbdfilkecpaaGreat
section
open Go.RowKit
theorem findI_cases (fs : List Rfile) (s : ByteArray) : (findI fs s = -1 ∧ findR fs s = none ∧ ∀ f ∈ fs, f.nm ≠ s) ∨ ∃ (k : Nat) (f : Rfile), findI fs s = k ∧ fs[k]? = some f ∧ f.nm = s ∧ findR fs s = some f ∧ ∀ x ∈ fs.take k, x.nm ≠ s := by
 rcases hq : fs.findIdx? (fun f => decide (f.nm = s)) with _ | k
 ·have := List.findIdx?_eq_none_iff.1 hq
  have h : ∀ x ∈ fs, x.nm ≠ s := fun x hx => by simpa using this x hx
  exact .inl ⟨(findI_none h).1, (findI_none h).2, h⟩
 ·obtain ⟨hk, he, hn⟩ := List.findIdx?_eq_some_iff_getElem.1 hq
  have he' : fs[k].nm = s := by simpa using he
  have h : ∀ x ∈ fs.take k, x.nm ≠ s := by
   intro x hx
   obtain ⟨j, hj, rfl⟩ := List.getElem_of_mem hx
   rw [List.length_take] at hj
   have := hn j (by omega)
   rw [List.getElem_take]
   simpa using this
  have hf : fs[k]? = some fs[k] := List.getElem?_eq_getElem hk
  exact .inr ⟨k, fs[k], (findI_at h hf he').1, hf, he', (findI_at h hf he').2, h⟩
set_option maxRecDepth 100000 in
set_option maxHeartbeats 800000 in
theorem seen_raw (w : World) (A : Option Addr) (n c : Nat) (fs : List Rfile) (b0 b1 : Bool) (pA : Option Addr) (pn pc : Nat) (x4 x5 x6 x7 : Int) (s : ByteArray) (hF : Rows w A n 3 (fs.map rfCells)) (hn : n ≤ 9223372036854775807) :
  Calls Tryz.prog 10 #[.agg #[.bool b0, .bool b1, .slice A n c, .slice pA pn pc, .int .i64 x4, .int .i64 x5, .int .i64 x6, .int .i64 x7], .string s] w fun e w' => e = .returned (.string (strOf (seenR fs s))) ∧ Kp NoB w w' := by
 have HF := zh hF
 have HN := zh hn
 have hE : strOf [] = ⟨#[]⟩ := rfl
 rcases findI_cases fs s with ⟨h1, h2, _⟩ | ⟨k, f, h1, hfk, he, h2, _⟩
 ·have H1 := zh h1
  have H2 : Hid (seenR fs s = []) := zh (by unfold seenR; rw [h2])
  clear h1 h2 hF hn
  go_enter Tryz.func10, Tryz.ntmps10
  go_wp2_with (go_at_call 30; go_must (refine (find_raw _ A n c fs b0 b1 pA pn pc x4 x5 x6 x7 s (HF.out.keep ((Kp.refl NoB w).alloc _)) HN.out).mono ?_); rintro e w2 ⟨rfl, hk⟩; rw [H1.out]; have HK := zh hk; clear hk)
  go_ret
  exact ⟨by rw [H2.out]; rfl, ((Kp.refl NoB w).alloc _).trans HK.out (fun _ _ q => q)⟩
 ·have H1 := zh h1
  have H2 : Hid (seenR fs s = f.seen) := zh (by unfold seenR; rw [h2])
  have hfl : fs.length = n := by have := hF.1; simpa using this
  have hkn : k < n := by rw [← hfl]; exact (List.getElem?_eq_some_iff.1 hfk).1
  obtain ⟨g, o, rfl, hg, hc⟩ := hF.cell (k := k) (x := rfCells f) (by rw [List.getElem?_map, hfk]; rfl)
  have c1 := hc 1 _ rfl
  have HC := zh c1
  have HG := zh hg
  have hkk : (k : Int) < (n : Int) := by omega
  clear h1 h2 hF hc hfl he hfk c1 hg
  go_enter Tryz.func10, Tryz.ntmps10
  go_wp2_with fail
  refine (find_raw _ _ n c fs b0 b1 pA pn pc x4 x5 x6 x7 s (HF.out.keep ((Kp.refl NoB w).alloc _)) HN.out).mono ?_
  rintro e w2 ⟨rfl, hk⟩
  rw [H1.out]
  have hkw := ((Kp.refl NoB w).alloc _).trans hk (fun _ _ q => q)
  have HKW := zh hkw
  have b2 := (Blk.new w 29 #[.bool b0, .bool b1, .slice (some ⟨g, o, none⟩) n c, .slice pA pn pc, .int .i64 x4, .int .i64 x5, .int .i64 x6, .int .i64 x7]).keep hk (fun q => q)
  have e2 : w2.cell? ⟨w.heap.size, 2, none⟩ = some (.slice (some ⟨g, o, none⟩) n c) := by rw [b2.cell]; rfl
  have e1 := (hkw.cell HG.out (fun q => q)).trans HC.out
  clear hk hkw b2
  go_wp2_with fail
  go_ret
  exact ⟨by rw [H2.out]; rfl, HKW.out⟩
def fileV (s : ByteArray) (l k : List Int) : Array Value := #[.string s, .string (strOf l), .string (strOf k)]
set_option maxRecDepth 100000 in
set_option maxHeartbeats 800000 in
theorem file_raw (w : World) (A : Option Addr) (n c : Nat) (fs : List Rfile) (b0 b1 : Bool) (pA : Option Addr) (pn pc : Nat) (x4 x5 x6 x7 : Int) (s : ByteArray) (hF : Rows w A n 3 (fs.map rfCells)) (hn : n ≤ 9223372036854775807) :
  Calls Tryz.prog 63 #[.agg #[.bool b0, .bool b1, .slice A n c, .slice pA pn pc, .int .i64 x4, .int .i64 x5, .int .i64 x6, .int .i64 x7], .string s] w fun e w' => e = .returned (.agg (fileV s (seenR fs s) (keptR fs s))) ∧ Kp NoB w w' := by
 have HF := zh hF
 have HN := zh hn
 rcases findI_cases fs s with ⟨h1, h2, _⟩ | ⟨k, f, h1, hfk, he, h2, _⟩
 ·have H1 := zh h1
  have H2 : Hid (fileV s (seenR fs s) (keptR fs s) = #[.string s, .string ⟨#[]⟩, .string ⟨#[]⟩]) := zh (by unfold seenR keptR; rw [h2]; rfl)
  clear h1 h2 hF hn
  go_enter Tryz.func63, Tryz.ntmps63
  go_wp2_with fail
  refine (find_raw _ A n c fs b0 b1 pA pn pc x4 x5 x6 x7 s (HF.out.keep (((Kp.refl NoB w).alloc _).alloc _)) HN.out).mono ?_
  rintro e w2 ⟨rfl, hk⟩
  rw [H1.out]
  have hkw := (((Kp.refl NoB w).alloc _).alloc _).trans hk (fun _ _ q => q)
  have b4 := (Blk.top (W := w.alloc (.cells #[.bool b0, .bool b1, .slice A n c, .slice pA pn pc, .int .i64 x4, .int .i64 x5, .int .i64 x6, .int .i64 x7] 29)) (g := w.heap.size + 1) (t := 72) (cs := #[.string ⟨#[]⟩, .string ⟨#[]⟩, .string ⟨#[]⟩]) (by simp)).keep hk (fun q => q)
  have HB4 := zh b4
  have HKW := zh hkw
  have f0 := b4.frozen 0
  have f1 := b4.frozen 1
  have f2 := b4.frozen 2
  have e0 : w2.cell? ⟨w.heap.size + 1, 0, none⟩ = some (.string ⟨#[]⟩) := by rw [b4.cell]; rfl
  have e1 : w2.cell? ⟨w.heap.size + 1, 1, none⟩ = some (.string ⟨#[]⟩) := by rw [b4.cell]; rfl
  have e2 : w2.cell? ⟨w.heap.size + 1, 2, none⟩ = some (.string ⟨#[]⟩) := by rw [b4.cell]; rfl
  clear hk hkw b4
  go_wp2_with fail
  have kz : w.heap.size ≤ w.heap.size + 1 := by omega
  refine bodyPost_ret (results_cell_row rfl _ _ _ _ _ _ _ rfl (((HB4.out.set_ 0 _).set_ 1 _).set_ 2 _) Tryz.underlying72 rfl (by exact infoRf)) rfl ⟨by rw [H2.out]; rfl, ((HKW.out.setCell (.inl kz) _).setCell (.inl kz) _).setCell (.inl kz) _⟩
 ·have H1 := zh h1
  have H2 : Hid (fileV s (seenR fs s) (keptR fs s) = #[.string f.nm, .string (strOf f.seen), .string (strOf f.kept)]) := zh (by unfold seenR keptR; rw [h2, he]; rfl)
  have hfl : fs.length = n := by have := hF.1; simpa using this
  have hkn : k < n := by rw [← hfl]; exact (List.getElem?_eq_some_iff.1 hfk).1
  obtain ⟨g, o, rfl, hg, hc⟩ := hF.cell (k := k) (x := rfCells f) (by rw [List.getElem?_map, hfk]; rfl)
  have HC0 : Hid (w.cell? ⟨g, o + k * 3, none⟩ = some (.string f.nm)) := zh (hc 0 _ rfl)
  have HC1 := zh (hc 1 _ rfl)
  have HC2 := zh (hc 2 _ rfl)
  have HG := zh hg
  have hkk : (k : Int) < (n : Int) := by omega
  clear h1 h2 hF hc hfl he hfk hg
  go_enter Tryz.func63, Tryz.ntmps63
  go_wp2_with fail
  refine (find_raw _ _ n c fs b0 b1 pA pn pc x4 x5 x6 x7 s (HF.out.keep (((Kp.refl NoB w).alloc _).alloc _)) HN.out).mono ?_
  rintro e w2 ⟨rfl, hk⟩
  rw [H1.out]
  have hkw := (((Kp.refl NoB w).alloc _).alloc _).trans hk (fun _ _ q => q)
  have hkd := ((Kp.refl NoB (w.alloc (.cells #[.bool b0, .bool b1, .slice (some ⟨g, o, none⟩) n c, .slice pA pn pc, .int .i64 x4, .int .i64 x5, .int .i64 x6, .int .i64 x7] 29))).alloc _).trans hk (fun _ _ q => q)
  have b4 := (Blk.top (W := w.alloc (.cells #[.bool b0, .bool b1, .slice (some ⟨g, o, none⟩) n c, .slice pA pn pc, .int .i64 x4, .int .i64 x5, .int .i64 x6, .int .i64 x7] 29)) (g := w.heap.size + 1) (t := 72) (cs := #[.string ⟨#[]⟩, .string ⟨#[]⟩, .string ⟨#[]⟩]) (by simp)).keep hk (fun q => q)
  have b3 := (Blk.new w 29 #[.bool b0, .bool b1, .slice (some ⟨g, o, none⟩) n c, .slice pA pn pc, .int .i64 x4, .int .i64 x5, .int .i64 x6, .int .i64 x7]).keep hkd (fun q => q)
  have HB4 := zh b4
  have HKW := zh hkw
  have f0 := b4.frozen 0
  have f1 := b4.frozen 1
  have f2 := b4.frozen 2
  have e0 : w2.cell? ⟨w.heap.size + 1, 0, none⟩ = some (.string ⟨#[]⟩) := by rw [b4.cell]; rfl
  have e1 : w2.cell? ⟨w.heap.size + 1, 1, none⟩ = some (.string ⟨#[]⟩) := by rw [b4.cell]; rfl
  have e2 : w2.cell? ⟨w.heap.size + 1, 2, none⟩ = some (.string ⟨#[]⟩) := by rw [b4.cell]; rfl
  have e3 : w2.cell? ⟨w.heap.size, 2, none⟩ = some (.slice (some ⟨g, o, none⟩) n c) := by rw [b3.cell]; rfl
  have d0 := (hkw.cell HG.out (fun q => q)).trans HC0.out
  have d1 := (hkw.cell HG.out (fun q => q)).trans HC1.out
  have d2 := (hkw.cell HG.out (fun q => q)).trans HC2.out
  clear hk hkw b4 b3 hkd
  go_wp2_with fail
  have kz : w.heap.size ≤ w.heap.size + 1 := by omega
  refine bodyPost_ret (results_cell_row rfl _ _ _ _ _ _ _ rfl (((HB4.out.set_ 0 _).set_ 1 _).set_ 2 _) Tryz.underlying72 rfl (by exact infoRf)) rfl ⟨by rw [H2.out]; rfl, ((HKW.out.setCell (.inl kz) _).setCell (.inl kz) _).setCell (.inl kz) _⟩
end
section
open Go.RowKit
theorem flat_at (sz : Nat) : ∀ (xs : List (List Value)), (∀ x ∈ xs, x.length = sz) → ∀ (k j : Nat) (hj : j < sz) (hk : k < xs.length), xs.flatten[k * sz + j]? = xs[k][j]? := by
 intro xs
 induction xs with
 | nil => intro _ k j _ hk; simp at hk
 | cons x r ih =>
  intro h k j hj hk
  have hx := h x (by simp)
  rw [List.flatten_cons]
  cases k with
  | zero =>
   rw [List.getElem?_append_left (by rw [hx]; omega)]
   simp
  | succ k =>
   rw [List.getElem?_append_right (by rw [hx, Nat.add_mul]; omega), hx, show (k + 1) * sz + j - sz = k * sz + j by rw [Nat.add_mul]; omega, ih (fun y hy => h y (by simp [hy])) k j hj (by simpa using hk)]
   simp
theorem flat_len (sz : Nat) : ∀ (xs : List (List Value)), (∀ x ∈ xs, x.length = sz) → xs.flatten.length = xs.length * sz := by
 intro xs
 induction xs with
 | nil => intro _; simp
 | cons x r ih =>
  intro h
  rw [List.flatten_cons, List.length_append, h x (by simp), ih (fun y hy => h y (by simp [hy])), List.length_cons, Nat.add_mul]
  omega
theorem Rows.own {w : World} {base n cap sz : Nat} {e : TypeId} {A : Option Addr} {xs : List (List Value)} (h : w.ownsRow base e sz (.slice A n cap) n xs.flatten) (hl : xs.length = n) (hx : ∀ x ∈ xs, x.length = sz) (he : NotDk e := by decide) : Rows w A n sz xs :=
 ⟨hl, hx, fun hn => by
  obtain ⟨g, ds, rfl, hg, hb⟩ := own_blkN h hn
  refine ⟨g, 0, ⟨e, he⟩, _, rfl, hb, ?_, fun k hk j hj => ?_⟩
  ·simp only [Nat.zero_add, List.size_toArray, List.length_append, flat_len sz xs hx, hl]
   omega
  ·have hlt : k * sz + j < xs.flatten.length := by
    rw [flat_len sz xs hx]
    have : (k + 1) * sz ≤ xs.length * sz := Nat.mul_le_mul_right _ hk
    rw [Nat.add_mul] at this
    omega
   simp only [Nat.zero_add, List.getElem?_toArray]
   rw [List.getElem?_append_left hlt, flat_at sz xs hx k j hj hk]⟩
theorem Rows.src {w : World} {n sz : Nat} {A : Option Addr} {xs : List (List Value)} (h : Rows w A n sz xs) (hn : 0 < n) (hsz : 0 < sz) : ∃ g o, A = some ⟨g, o, none⟩ ∧ ∀ j u, xs.flatten[j]? = some u → w.cell? ⟨g, o + j, none⟩ = some u := by
 obtain ⟨g, o, t, cs, rfl, hb, hs, hc⟩ := h.2.2 hn
 refine ⟨g, o, rfl, fun j u hj => ?_⟩
 have hjl := (List.getElem?_eq_some_iff.1 hj).1
 rw [flat_len sz xs h.2.1] at hjl
 have hk : j / sz < xs.length := Nat.div_lt_of_lt_mul (by rw [Nat.mul_comm]; exact hjl)
 have hm : j % sz < sz := Nat.mod_lt _ hsz
 have e : j / sz * sz + j % sz = j := by rw [Nat.mul_comm]; exact Nat.div_add_mod j sz
 have h1 := flat_at sz xs h.2.1 (j / sz) (j % sz) hm hk
 rw [e, hj] at h1
 rw [hb.cell]
 have h2 := hc (j / sz) hk (j % sz) hm
 rw [Nat.add_assoc, e] at h2
 rw [h2, ← h1]
theorem cells_newR (w : World) (cs : List Value) (t : TypeId) : ∀ j u, cs[j]? = some u → (w.alloc (.cells cs.toArray t)).cell? ((⟨w.heap.size, 0, none⟩ : Addr).add j) = some u := by
 intro j u hj
 rw [add_mk, Nat.zero_add, (Blk.new w t cs.toArray).cell]
 simpa using hj
def putR (fs : List Rfile) (f : Rfile) : List Rfile := match fs.findIdx? fun x => decide (x.nm = f.nm) with | some i => fs.set i f | none => fs ++ [f]
theorem set3_at {xs : List (List Value)} {cs : Array Value} {k : Nat} {a b c : Value} (hx : ∀ x ∈ xs, x.length = 3) (hk : k < xs.length) (hs : xs.length * 3 ≤ cs.size) (hc : ∀ i (h : i < xs.length) j, j < 3 → cs[i * 3 + j]? = xs[i][j]?) :
  ∀ i (h : i < (xs.set k [a, b, c]).length) j, j < 3 → (((cs.setIfInBounds (k * 3) a).setIfInBounds (k * 3 + 1) b).setIfInBounds (k * 3 + 2) c)[i * 3 + j]? = (xs.set k [a, b, c])[i][j]? := by
 intro i h j hj
 rw [List.length_set] at h
 simp only [Array.getElem?_setIfInBounds, Array.size_setIfInBounds, List.getElem_set]
 by_cases hik : k = i
 ·subst hik
  rcases (show j = 0 ∨ j = 1 ∨ j = 2 by omega) with rfl | rfl | rfl
  ·simp; omega
  ·simp; omega
  ·simp; omega
 ·rw [if_neg (by omega), if_neg (by omega), if_neg (by omega), if_neg hik]
  exact hc i h j hj
end
section
open Go.RowKit
def RowsC (w : World) (A : Option Addr) (n : Nat) (sz : Nat) (xs : List (List Value)) : Prop :=
 xs.length = n ∧ (∀ x ∈ xs, x.length = sz) ∧ (0 < n → ∃ g o, A = some ⟨g, o, none⟩ ∧ g < w.heap.size ∧ ∀ k (h : k < xs.length) j (hj : j < sz), w.cell? ⟨g, o + k * sz + j, none⟩ = xs[k][j]? ∧ w.frozen? ⟨g, o + k * sz + j, none⟩ = false)
theorem RowsC.keepS {S : Nat → Prop} {w w' : World} {A : Option Addr} {n sz : Nat} {xs : List (List Value)} (h : RowsC w A n sz xs) (k : Kp S w w') (hA : ∀ g o, A = some ⟨g, o, none⟩ → 0 < n → ¬ S g) : RowsC w' A n sz xs :=
 ⟨h.1, h.2.1, fun hn => by
  obtain ⟨g, o, e, hg, hc⟩ := h.2.2 hn
  have hb := k.block g hg (hA g o e hn)
  exact ⟨g, o, e, Nat.lt_of_lt_of_le hg k.size, fun i hi j hj => ⟨(World.cell?_of_block (w := w) hb).trans (hc i hi j hj).1, (World.frozen?_of_block (w := w) hb).trans (hc i hi j hj).2⟩⟩⟩
theorem RowsC.keep {w w' : World} {A : Option Addr} {n sz : Nat} {xs : List (List Value)} (h : RowsC w A n sz xs) (k : Kp NoB w w') : RowsC w' A n sz xs := h.keepS k (fun _ _ _ _ q => q)
theorem RowsC.cell {w : World} {A : Option Addr} {n sz : Nat} {xs : List (List Value)} (h : RowsC w A n sz xs) {k : Nat} {x : List Value} (hk : xs[k]? = some x) : ∃ g o, A = some ⟨g, o, none⟩ ∧ g < w.heap.size ∧ ∀ j v, x[j]? = some v → w.cell? ⟨g, o + k * sz + j, none⟩ = some v := by
 obtain ⟨hk', rfl⟩ := List.getElem?_eq_some_iff.1 hk
 obtain ⟨g, o, e, hg, hc⟩ := h.2.2 (by have := h.1; omega)
 refine ⟨g, o, e, hg, fun j v hj => ?_⟩
 have hjl : j < sz := by
  rw [← h.2.1 _ (List.getElem_mem hk')]
  exact (List.getElem?_eq_some_iff.1 hj).1
 rw [(hc k hk' j hjl).1]
 exact hj
theorem RowsC.own {w : World} {base n cap sz : Nat} {e : TypeId} {A : Option Addr} {xs : List (List Value)} (h : w.ownsRow base e sz (.slice A n cap) n xs.flatten) (hl : xs.length = n) (hx : ∀ x ∈ xs, x.length = sz) : RowsC w A n sz xs :=
 ⟨hl, hx, fun hn => by
  obtain ⟨g, ds, rfl, hg, hb⟩ := own_blkN h hn
  refine ⟨g, 0, rfl, hb.lt, fun k hk j hj => ⟨?_, hb.frozen _⟩⟩
  have hlt : k * sz + j < xs.flatten.length := by
   rw [flat_len sz xs hx]
   have : (k + 1) * sz ≤ xs.length * sz := Nat.mul_le_mul_right _ hk
   rw [Nat.add_mul] at this
   omega
  rw [hb.cell]
  simp only [Nat.zero_add, List.getElem?_toArray]
  rw [List.getElem?_append_left hlt, flat_at sz xs hx k j hj hk]⟩
theorem RowsC.src {w : World} {n sz : Nat} {A : Option Addr} {xs : List (List Value)} (h : RowsC w A n sz xs) (hn : 0 < n) (hsz : 0 < sz) : ∃ g o, A = some ⟨g, o, none⟩ ∧ ∀ j u, xs.flatten[j]? = some u → w.cell? ⟨g, o + j, none⟩ = some u := by
 obtain ⟨g, o, rfl, hg, hc⟩ := h.2.2 hn
 refine ⟨g, o, rfl, fun j u hj => ?_⟩
 have hjl := (List.getElem?_eq_some_iff.1 hj).1
 rw [flat_len sz xs h.2.1] at hjl
 have hk : j / sz < xs.length := Nat.div_lt_of_lt_mul (by rw [Nat.mul_comm]; exact hjl)
 have hm : j % sz < sz := Nat.mod_lt _ hsz
 have e : j / sz * sz + j % sz = j := by rw [Nat.mul_comm]; exact Nat.div_add_mod j sz
 have h1 := flat_at sz xs h.2.1 (j / sz) (j % sz) hm hk
 rw [e, hj] at h1
 have h2 := (hc (j / sz) hk (j % sz) hm).1
 rw [Nat.add_assoc, e] at h2
 rw [h2, ← h1]
end
section
open Go.RowKit
theorem infoSec : (Tryz.prog.info? 119).map (·.size) = some 64 := by kernel_rfl
theorem zeroSec (w : World) : (zeroValue 119).run Tryz.prog w = .ok (.agg (bytesV (zeros 64))) w := by kernel_rfl
theorem loadSec (w : World) (ev : Operand → Value) (ds : Option Tmp) (x : Operand) (ty : TypeId) (ps : String) (af : Array Edge) (g : Option (Nat × Bool)) (h : thereP w (ev x) 64) :
  (execOp ev ⟨ds, .load 119 x, ty, ps, af, g⟩).run Tryz.prog w = .ok (.value (.agg (readP w (ev x) 64))) w := execLoad_P Tryz.underlying119 rfl infoSec w ev ds x ty ps af g h
theorem storeSec (w : World) (ev : Operand → Value) (ds : Option Tmp) (x y : Operand) (ty : TypeId) (ps : String) (af : Array Edge) (g : Option (Nat × Bool)) (hv : aggOK (ev y) 64) (h : thereP w (ev x) 64) :
  (execOp ev ⟨ds, .store 119 x y, ty, ps, af, g⟩).run Tryz.prog w = .ok .skip (setP w (ev x) (ev y)) := execStore_P infoSec w ev ds x y ty ps af g hv h
theorem allocSec (w : World) (ev : Operand → Value) (ds : Option Tmp) (ty : TypeId) (ps : String) (af : Array Edge) (g : Option (Nat × Bool)) :
  (execOp ev ⟨ds, .alloc 119, ty, ps, af, g⟩).run Tryz.prog w = .ok (.value (.pointer (some ⟨w.heap.size, 0, none⟩))) (w.alloc (.cells (bytesV (zeros 64)) 119)) := by
 simp only [execOp, Instr.alloc, Sem.run_bind, zeroSec, Result.andThen_ok]
 rfl
theorem infoW4 : (Tryz.prog.info? 80).map (·.size) = some 4 := by kernel_rfl
theorem loadW4 (w : World) (ev : Operand → Value) (ds : Option Tmp) (x : Operand) (ty : TypeId) (ps : String) (af : Array Edge) (g : Option (Nat × Bool)) (h : thereP w (ev x) 4) :
  (execOp ev ⟨ds, .load 80 x, ty, ps, af, g⟩).run Tryz.prog w = .ok (.value (.agg (readP w (ev x) 4))) w := execLoad_P Tryz.underlying80 rfl infoW4 w ev ds x ty ps af g h
theorem storeW4 (w : World) (ev : Operand → Value) (ds : Option Tmp) (x y : Operand) (ty : TypeId) (ps : String) (af : Array Edge) (g : Option (Nat × Bool)) (hv : aggOK (ev y) 4) (h : thereP w (ev x) 4) :
  (execOp ev ⟨ds, .store 80 x y, ty, ps, af, g⟩).run Tryz.prog w = .ok .skip (setP w (ev x) (ev y)) := execStore_P infoW4 w ev ds x y ty ps af g hv h
def w4A (w : W4) : Array Value := #[.int .u32 w.a, .int .u32 w.b, .int .u32 w.c, .int .u32 w.d]
theorem w4A_ones (w : W4) : ones (w4A w) := by unfold ones w4A; simp [Value.oneCell']
def pgL (x : Pg) : List Value := .int .i64 x.n :: x.b.map (Value.int .u8)
def pgA (x : Pg) : Array Value := (pgL x).toArray
structure PgOk (x : Pg) : Prop where
 len : x.b.length = 256
 rng : ∀ y ∈ x.b, 0 ≤ y ∧ y < 256
 n0 : -9223372036854775808 ≤ x.n ∧ x.n ≤ 9223372036854775807
theorem pgL_len {x : Pg} (h : PgOk x) : (pgL x).length = 257 := by simp [pgL, h.len]
theorem pgA_size {x : Pg} (h : PgOk x) : (pgA x).size = 257 := by simp [pgA, pgL_len h]
theorem pgL_one (x : Pg) : ∀ u ∈ pgL x, u.oneCell' = true := by
 intro u hu
 unfold pgL at hu
 rcases List.mem_cons.1 hu with rfl | hu
 ·rfl
 ·exact u8_one _ u hu
theorem pgA_ones (x : Pg) : ones (pgA x) := by
 unfold ones pgA
 simp only [List.all_toArray', List.all_eq_true]
 exact pgL_one x
theorem infoPgA : (Tryz.prog.info? 49).map (fun i => (i.zero, i.size, i.bytes)) = some (some (.agg ((#[.int .i64 0] : Array Value) ++ Array.replicate 256 (.int .u8 0))), 257, 264) := by kernel_rfl
theorem infoPgS : (Tryz.prog.info? 49).map (·.size) = some 257 := by kernel_rfl
theorem zeroPg (w : World) : (zeroValue 49).run Tryz.prog w = .ok (.agg (pgA ⟨0, zeros 256⟩)) w := by kernel_rfl
theorem loadPg (w : World) (ev : Operand → Value) (ds : Option Tmp) (x : Operand) (ty : TypeId) (ps : String) (af : Array Edge) (g : Option (Nat × Bool)) (h : thereP w (ev x) 257) :
  (execOp ev ⟨ds, .load 49 x, ty, ps, af, g⟩).run Tryz.prog w = .ok (.value (.agg (readP w (ev x) 257))) w := execLoad_P Tryz.underlying49 rfl infoPgS w ev ds x ty ps af g h
theorem storePg (w : World) (ev : Operand → Value) (ds : Option Tmp) (x y : Operand) (ty : TypeId) (ps : String) (af : Array Edge) (g : Option (Nat × Bool)) (hv : aggOK (ev y) 257) (h : thereP w (ev x) 257) :
  (execOp ev ⟨ds, .store 49 x y, ty, ps, af, g⟩).run Tryz.prog w = .ok .skip (setP w (ev x) (ev y)) := execStore_P infoPgS w ev ds x y ty ps af g hv h
theorem allocPg (w : World) (ev : Operand → Value) (ds : Option Tmp) (ty : TypeId) (ps : String) (af : Array Edge) (g : Option (Nat × Bool)) :
  (execOp ev ⟨ds, .alloc 49, ty, ps, af, g⟩).run Tryz.prog w = .ok (.value (.pointer (some ⟨w.heap.size, 0, none⟩))) (w.alloc (.cells (pgA ⟨0, zeros 256⟩) 49)) := by
 simp only [execOp, Instr.alloc, Sem.run_bind, zeroPg, Result.andThen_ok]
 rfl
theorem buildPg1 (w : World) (n : Int) : (Instr.build 49 #[(0, .int .i64 n)]).run Tryz.prog w = .ok (.agg (pgA ⟨n, zeros 256⟩)) w := by kernel_rfl
theorem exBuildPg1 (w : World) (ev : Operand → Value) (x : Operand) (n : Int) (ds : Option Tmp) (ty : TypeId) (ps : String) (af : Array Edge) (g : Option (Nat × Bool)) (hx : ev x = .int .i64 n) :
  (execOp ev ⟨ds, .build 49 #[(0, x)], ty, ps, af, g⟩).run Tryz.prog w = .ok (.value (.agg (pgA ⟨n, zeros 256⟩))) w := by
 simp only [execOp, List.map_toArray, List.map_cons, List.map_nil, hx, Sem.run_bind, buildPg1, Result.andThen_ok]
 rfl
theorem slicePg (w : World) (cs : Array Value) (hs : cs.size = 257) : (Instr.buildSlice 31 1 #[(0, .agg cs)]).run Tryz.prog w = .ok (.slice (some ⟨w.heap.size, 0, none⟩) 1 1) (w.alloc (.cells cs 49)) := by
 obtain ⟨i, hi, h0, h1, h2⟩ := info_parts infoPgA
 have hu := Tryz.underlying31
 have hc : (Value.agg cs).cells = cs := rfl
 have hf : ∀ Z : Array Value, Z.size = 257 → Instr.fill (fun i => some (i * 257, 257)) Z [(0, .agg cs)] = some cs := fun Z hZ => by
  have := Go.Great.fill_whole (s := 257) (by omega) [.agg cs] Z (by simp [hc, hs]) (by simp [hZ])
  simpa [hc] using this
 simp [Instr.buildSlice, run_underlying hu, sizeOf, typeInfo, hi, h1, zeroPg, newRow, newObj]
 rw [hf _ (by simp)]
 rfl
theorem exSlicePg (w : World) (ev : Operand → Value) (x : Operand) (cs : Array Value) (ds : Option Tmp) (ty : TypeId) (ps : String) (af : Array Edge) (g : Option (Nat × Bool)) (hx : ev x = .agg cs) (hs : cs.size = 257) :
  (execOp ev ⟨ds, .buildSlice 31 1 #[(0, x)], ty, ps, af, g⟩).run Tryz.prog w = .ok (.value (.slice (some ⟨w.heap.size, 0, none⟩) 1 1)) (w.alloc (.cells cs 49)) := by
 simp only [execOp, List.map_toArray, List.map_cons, List.map_nil, hx, Sem.run_bind, slicePg w cs hs, Result.andThen_ok]
 rfl
def PgsAt (w : World) (A : Option Addr) (n : Nat) (l : List Pg) : Prop := RowsC w A n 257 (l.map pgL)
theorem PgsAt.len {w : World} {A : Option Addr} {n : Nat} {l : List Pg} (h : PgsAt w A n l) : l.length = n := by have := h.1; simpa using this
theorem PgsAt.keep {w w' : World} {A : Option Addr} {n : Nat} {l : List Pg} (h : PgsAt w A n l) (k : Kp NoB w w') : PgsAt w' A n l := RowsC.keep h k
theorem PgsAt.at_ {w : World} {A : Option Addr} {n : Nat} {l : List Pg} (h : PgsAt w A n l) (k : Nat) (hk : k < n) : ∃ g o, A = some ⟨g, o, none⟩ ∧ g < w.heap.size ∧ w.there g (o + k * 257) 257 ∧ readRow w g (o + k * 257) 257 = pgA (l[k]'(by rw [h.len]; exact hk)) := by
 have hkl : k < (l.map pgL).length := by have := h.1; omega
 obtain ⟨g, o, e, hg, hc⟩ := h.2.2 (by omega)
 have hl : ((l.map pgL)[k]).length = 257 := h.2.1 _ (List.getElem_mem hkl)
 have h2 : k * 257 + 257 ≤ n * 257 := by omega
 have ht : w.there g (o + k * 257) 257 := fun j hj => by
  obtain ⟨h5, h6⟩ := hc k hkl j hj
  refine ⟨?_, h6⟩
  rw [h5, List.getElem?_eq_getElem (by omega)]
  rfl
 refine ⟨g, o, e, hg, ht, ?_⟩
 unfold readRow pgA
 congr 1
 apply List.ext_getElem
 ·simp only [List.getElem_map] at hl
  simp [hl]
 ·intro j h1 h3
  have hj : j < 257 := by simpa using h1
  simp only [List.getElem_map, List.getElem_range]
  rw [(hc k hkl j hj).1]
  simp only [List.getElem_map]
  rw [List.getElem?_eq_getElem h3]
  rfl
theorem copyS (w : World) (g o n cap : Nat) (s : ByteArray) (hle : s.size ≤ n) (ht : w.there g o s.size) :
  (Builtin.copy_ #[68, 9] 3 #[.slice (some ⟨g, o, none⟩) n cap, .string s]).run Tryz.prog w = .ok (.int .i64 s.size) (w.setCells g o ((strI s).map (Value.int .u8))) := by
 have hrun := Go.run_copy_string (P := Tryz.prog) w 68 9 3 5 g o n cap s Tryz.underlying68 sizeU8 hle (fun j hj => (ht j hj).1) (fun j hj => (ht j hj).2)
 have e : (strI s).map (Value.int .u8) = s.data.toList.map fun x => Value.int .u8 (x.toNat : Int) := by
  unfold strI
  rw [List.map_map]
  rfl
 rw [e]
 exact hrun
end
section
open Go.RowKit
def frL (f : Fr) : List Value := .int .i64 f.n :: ((zeros 256).map (Value.int .u8) ++ [.int .i64 f.en, .string (strOf f.b)])
def fnL (f : Fr) : List Value := .int .i64 f.n :: (f.b.map (Value.int .u8) ++ [.int .i64 f.en, .string ⟨#[]⟩])
theorem frL_len (f : Fr) : (frL f).length = 259 := by
 unfold frL
 rw [List.length_cons, List.length_append, List.length_map]
 unfold zeros
 rw [List.length_replicate]
 rfl
theorem fnL_len {f : Fr} (h : f.b.length = 256) : (fnL f).length = 259 := by simp [fnL, h]
theorem frL_one (f : Fr) : ∀ u ∈ frL f, u.oneCell' = true := by
 intro u hu
 unfold frL at hu
 rcases List.mem_cons.1 hu with rfl | hu
 ·rfl
 ·rcases List.mem_append.1 hu with hu | hu
  ·exact u8_one _ u hu
  ·simp only [List.mem_cons, List.not_mem_nil, or_false] at hu
   rcases hu with rfl | rfl <;> rfl
theorem fnL_one (f : Fr) : ∀ u ∈ fnL f, u.oneCell' = true := by
 intro u hu
 unfold fnL at hu
 rcases List.mem_cons.1 hu with rfl | hu
 ·rfl
 ·rcases List.mem_append.1 hu with hu | hu
  ·exact u8_one _ u hu
  ·simp only [List.mem_cons, List.not_mem_nil, or_false] at hu
   rcases hu with rfl | rfl <;> rfl
theorem ones_of {l : List Value} (h : ∀ u ∈ l, u.oneCell' = true) : ones l.toArray := by
 unfold ones
 simp only [List.all_toArray', List.all_eq_true]
 exact h
def fr0 : Array Value := (fnL ⟨0, 0, zeros 256⟩).toArray
theorem infoFr : (Tryz.prog.info? 85).map (fun i => (i.zero, i.size, i.bytes)) = some (some (.agg ((#[.int .i64 0] : Array Value) ++ Array.replicate 256 (.int .u8 0) ++ #[.int .i64 0, .string ⟨#[]⟩])), 259, 288) := by kernel_rfl
theorem infoFrS : (Tryz.prog.info? 85).map (·.size) = some 259 := by kernel_rfl
theorem zeroFr (w : World) : (zeroValue 85).run Tryz.prog w = .ok (.agg fr0) w := by kernel_rfl
theorem loadFr (w : World) (ev : Operand → Value) (ds : Option Tmp) (x : Operand) (ty : TypeId) (ps : String) (af : Array Edge) (g : Option (Nat × Bool)) (h : thereP w (ev x) 259) :
  (execOp ev ⟨ds, .load 85 x, ty, ps, af, g⟩).run Tryz.prog w = .ok (.value (.agg (readP w (ev x) 259))) w := execLoad_P Tryz.underlying85 rfl infoFrS w ev ds x ty ps af g h
theorem storeFr (w : World) (ev : Operand → Value) (ds : Option Tmp) (x y : Operand) (ty : TypeId) (ps : String) (af : Array Edge) (g : Option (Nat × Bool)) (hv : aggOK (ev y) 259) (h : thereP w (ev x) 259) :
  (execOp ev ⟨ds, .store 85 x y, ty, ps, af, g⟩).run Tryz.prog w = .ok .skip (setP w (ev x) (ev y)) := execStore_P infoFrS w ev ds x y ty ps af g hv h
theorem allocFr (w : World) (ev : Operand → Value) (ds : Option Tmp) (ty : TypeId) (ps : String) (af : Array Edge) (g : Option (Nat × Bool)) :
  (execOp ev ⟨ds, .alloc 85, ty, ps, af, g⟩).run Tryz.prog w = .ok (.value (.pointer (some ⟨w.heap.size, 0, none⟩))) (w.alloc (.cells fr0 85)) := by
 simp only [execOp, Instr.alloc, Sem.run_bind, zeroFr, Result.andThen_ok]
 rfl
theorem buildFr0 (w : World) (ev : Operand → Value) (ds : Option Tmp) (ty : TypeId) (ps : String) (af : Array Edge) (g : Option (Nat × Bool)) :
  (execOp ev ⟨ds, .build 85 #[], ty, ps, af, g⟩).run Tryz.prog w = .ok (.value (.agg fr0)) w := by
 kernel_rfl
theorem sliceFr (w : World) (cs : Array Value) (hs : cs.size = 259) : (Instr.buildSlice 81 1 #[(0, .agg cs)]).run Tryz.prog w = .ok (.slice (some ⟨w.heap.size, 0, none⟩) 1 1) (w.alloc (.cells cs 85)) := by
 obtain ⟨i, hi, h0, h1, h2⟩ := info_parts infoFr
 have hu := Tryz.underlying81
 have hc : (Value.agg cs).cells = cs := rfl
 have hf : ∀ Z : Array Value, Z.size = 259 → Instr.fill (fun i => some (i * 259, 259)) Z [(0, .agg cs)] = some cs := fun Z hZ => by
  have := Go.Great.fill_whole (s := 259) (by omega) [.agg cs] Z (by simp [hc, hs]) (by simp [hZ])
  simpa [hc] using this
 simp [Instr.buildSlice, run_underlying hu, sizeOf, typeInfo, hi, h1, zeroFr, newRow, newObj]
 rw [hf _ (by simp)]
 rfl
theorem exSliceFr (w : World) (ev : Operand → Value) (x : Operand) (cs : Array Value) (ds : Option Tmp) (ty : TypeId) (ps : String) (af : Array Edge) (g : Option (Nat × Bool)) (hx : ev x = .agg cs) (hs : cs.size = 259) :
  (execOp ev ⟨ds, .buildSlice 81 1 #[(0, x)], ty, ps, af, g⟩).run Tryz.prog w = .ok (.value (.slice (some ⟨w.heap.size, 0, none⟩) 1 1)) (w.alloc (.cells cs 85)) := by
 simp only [execOp, List.map_toArray, List.map_cons, List.map_nil, hx, Sem.run_bind, sliceFr w cs hs, Result.andThen_ok]
 rfl
theorem zf (off : Nat) : ∀ (xs : List Value) (k : Nat) (cs : Array Value), (xs.zipIdx k).foldl (fun cs (x : Value × Nat) => cs.setIfInBounds (off + x.2) x.1) cs = spl cs (off + k) xs
 | [], _, _ => rfl
 | v :: r, k, cs => by
  rw [List.zipIdx_cons, List.foldl_cons, zf off r (k + 1)]
  rfl
theorem fill_at (place : Nat → Option (Nat × Nat)) (i : Nat) (v : Value) (rest : List (Nat × Value)) (xa xb xd xs : List Value) (hp : place i = some (xa.length, xs.length)) (hv : v.cells = xs.toArray) (hl : xb.length = xs.length) :
  Instr.fill place (xa ++ xb ++ xd).toArray ((i, v) :: rest) = Instr.fill place (xa ++ xs ++ xd).toArray rest := by
 conv => lhs; unfold Instr.fill
 rw [hp]
 dsimp only
 rw [if_neg (by rw [hv]; simp; omega), hv]
 congr 1
 have e : xs.toArray.zipIdx.foldl (fun cs (x : Value × Nat) => cs.setIfInBounds (xa.length + x.2) x.1) (xa ++ xb ++ xd).toArray = (xs.zipIdx 0).foldl (fun cs (x : Value × Nat) => cs.setIfInBounds (xa.length + x.2) x.1) (xa ++ xb ++ xd).toArray := by
  rw [← Array.foldl_toList, Array.toList_zipIdx]
 refine e.trans ?_
 rw [zf, Nat.add_zero, spl_eq xs xa xb xd hl]
def plFr : Nat → Option (Nat × Nat) := fun i => (#[(0, 257), (257, 1), (258, 1)] : Array (Nat × Nat))[i]?
theorem built_fr (parts : List (Nat × Value)) : Tryz.prog.built 85 parts = Instr.fill plFr fr0 parts := by kernel_rfl
theorem fill_fr (n en : Int) (b : List Int) (s : ByteArray) (hb : b.length = 256) : Instr.fill plFr fr0 [(0, .agg (pgA ⟨n, b⟩)), (1, .int .i64 en), (2, .string s)] = some (.int .i64 n :: (b.map (Value.int .u8) ++ [.int .i64 en, .string s])).toArray := by
 have hlz : (pgL ⟨0, zeros 256⟩).length = 257 := by unfold pgL; rw [List.length_cons, List.length_map]; unfold zeros; rw [List.length_replicate]
 have hlb : (pgL ⟨n, b⟩).length = 257 := by unfold pgL; rw [List.length_cons, List.length_map, hb]
 have e0 : fr0 = ([] ++ pgL ⟨0, zeros 256⟩ ++ [Value.int .i64 0, Value.string ⟨#[]⟩]).toArray := by unfold fr0 fnL pgL; simp only [List.nil_append, List.cons_append]
 rw [e0, fill_at plFr 0 (.agg (pgA ⟨n, b⟩)) _ [] (pgL ⟨0, zeros 256⟩) [.int .i64 0, .string ⟨#[]⟩] (pgL ⟨n, b⟩) (by rw [hlb]; rfl) rfl (by rw [hlz, hlb])]
 have e1 : ([] ++ pgL ⟨n, b⟩ ++ [.int .i64 0, .string ⟨#[]⟩] : List Value) = pgL ⟨n, b⟩ ++ [.int .i64 0] ++ [.string ⟨#[]⟩] := by simp
 rw [e1, fill_at plFr 1 (.int .i64 en) _ (pgL ⟨n, b⟩) [.int .i64 0] [.string ⟨#[]⟩] [.int .i64 en] (by rw [hlb]; rfl) rfl rfl]
 have e2 : (pgL ⟨n, b⟩ ++ [.int .i64 en] ++ [.string ⟨#[]⟩] : List Value) = (pgL ⟨n, b⟩ ++ [.int .i64 en]) ++ [.string ⟨#[]⟩] ++ [] := by simp
 rw [e2]
 refine (fill_at plFr 2 (.string s) [] (pgL ⟨n, b⟩ ++ [.int .i64 en]) [.string ⟨#[]⟩] [] [.string s] (by rw [List.length_append, hlb]; rfl) rfl rfl).trans ?_
 unfold Instr.fill pgL
 simp
theorem buildFr3 (w : World) (n en : Int) (b : List Int) (s : ByteArray) (hb : b.length = 256) : (Instr.build 85 #[(0, .agg (pgA ⟨n, b⟩)), (1, .int .i64 en), (2, .string s)]).run Tryz.prog w = .ok (.agg (.int .i64 n :: (b.map (Value.int .u8) ++ [.int .i64 en, .string s])).toArray) w :=
 run_build w 85 _ _ ((built_fr _).trans (fill_fr n en b s hb))
theorem exBuildFr3 (w : World) (ev : Operand → Value) (x y z : Operand) (n en : Int) (b : List Int) (s : ByteArray) (hb : b.length = 256) (ds : Option Tmp) (ty : TypeId) (ps : String) (af : Array Edge) (g : Option (Nat × Bool)) (hx : ev x = .agg (pgA ⟨n, b⟩)) (hy : ev y = .int .i64 en) (hz : ev z = .string s) :
  (execOp ev ⟨ds, .build 85 #[(0, x), (1, y), (2, z)], ty, ps, af, g⟩).run Tryz.prog w = .ok (.value (.agg (.int .i64 n :: (b.map (Value.int .u8) ++ [.int .i64 en, .string s])).toArray)) w := by
 simp only [execOp, List.map_toArray, List.map_cons, List.map_nil, hx, hy, hz, Sem.run_bind, buildFr3 _ _ _ _ _ hb, Result.andThen_ok]
 rfl
theorem fill_fr1 (n : Int) (b : List Int) (hb : b.length = 256) : Instr.fill plFr fr0 [(0, .agg (pgA ⟨n, b⟩))] = some (fnL ⟨n, 0, b⟩).toArray := by
 have hlz : (pgL ⟨0, zeros 256⟩).length = 257 := by unfold pgL; rw [List.length_cons, List.length_map]; unfold zeros; rw [List.length_replicate]
 have hlb : (pgL ⟨n, b⟩).length = 257 := by unfold pgL; rw [List.length_cons, List.length_map, hb]
 have e0 : fr0 = ([] ++ pgL ⟨0, zeros 256⟩ ++ [Value.int .i64 0, Value.string ⟨#[]⟩]).toArray := by unfold fr0 fnL pgL; simp only [List.nil_append, List.cons_append]
 rw [e0, fill_at plFr 0 (.agg (pgA ⟨n, b⟩)) _ [] (pgL ⟨0, zeros 256⟩) [.int .i64 0, .string ⟨#[]⟩] (pgL ⟨n, b⟩) (by rw [hlb]; rfl) rfl (by rw [hlz, hlb])]
 unfold Instr.fill fnL pgL
 simp only [List.nil_append, List.cons_append]
theorem exBuildFr1 (w : World) (ev : Operand → Value) (x : Operand) (n : Int) (b : List Int) (hb : b.length = 256) (ds : Option Tmp) (ty : TypeId) (ps : String) (af : Array Edge) (g : Option (Nat × Bool)) (hx : ev x = .agg (pgA ⟨n, b⟩)) :
  (execOp ev ⟨ds, .build 85 #[(0, x)], ty, ps, af, g⟩).run Tryz.prog w = .ok (.value (.agg (fnL ⟨n, 0, b⟩).toArray)) w := by
 simp only [execOp, List.map_toArray, List.map_cons, List.map_nil, hx, Sem.run_bind, run_build w 85 _ _ ((built_fr _).trans (fill_fr1 n b hb)), Result.andThen_ok]
 rfl
end
section
open Go.RowKit
theorem infoRfile : (Tryz.prog.info? 72).map (fun i => (i.zero, i.size, i.bytes)) = some (some (.agg #[.string ⟨#[]⟩, .string ⟨#[]⟩, .string ⟨#[]⟩]), 3, 48) := by kernel_rfl
theorem rf_len (fs : List Rfile) : ∀ x ∈ fs.map rfCells, x.length = 3 := by
 intro x hx
 obtain ⟨f, _, rfl⟩ := List.mem_map.1 hx
 rfl
theorem rf_one (fs : List Rfile) : ∀ u ∈ (fs.map rfCells).flatten, u.oneCell' = true := by
 intro u hu
 obtain ⟨x, hx, hux⟩ := List.mem_flatten.1 hu
 obtain ⟨f, _, rfl⟩ := List.mem_map.1 hx
 simp only [rfCells, List.mem_cons, List.not_mem_nil, or_false] at hux
 rcases hux with rfl | rfl | rfl <;> rfl
theorem Blk.c8 {w : World} {g : Nat} {t : TypeId} {a0 a1 a2 a3 a4 a5 a6 a7 : Value} (h : Blk w g t #[a0, a1, a2, a3, a4, a5, a6, a7]) :
  w.cell? ⟨g, 0, none⟩ = some a0 ∧ w.cell? ⟨g, 1, none⟩ = some a1 ∧ w.cell? ⟨g, 2, none⟩ = some a2 ∧ w.cell? ⟨g, 3, none⟩ = some a3 ∧ w.cell? ⟨g, 4, none⟩ = some a4 ∧ w.cell? ⟨g, 5, none⟩ = some a5 ∧ w.cell? ⟨g, 6, none⟩ = some a6 ∧ w.cell? ⟨g, 7, none⟩ = some a7 :=
 ⟨h.cell 0, h.cell 1, h.cell 2, h.cell 3, h.cell 4, h.cell 5, h.cell 6, h.cell 7⟩
theorem Blk.z8 {w : World} {g : Nat} {t : TypeId} {cs : Array Value} (h : Blk w g t cs) :
  w.frozen? ⟨g, 0, none⟩ = false ∧ w.frozen? ⟨g, 1, none⟩ = false ∧ w.frozen? ⟨g, 2, none⟩ = false ∧ w.frozen? ⟨g, 3, none⟩ = false ∧ w.frozen? ⟨g, 4, none⟩ = false ∧ w.frozen? ⟨g, 5, none⟩ = false ∧ w.frozen? ⟨g, 6, none⟩ = false ∧ w.frozen? ⟨g, 7, none⟩ = false :=
 ⟨h.frozen 0, h.frozen 1, h.frozen 2, h.frozen 3, h.frozen 4, h.frozen 5, h.frozen 6, h.frozen 7⟩
theorem Blk.c3 {w : World} {g : Nat} {t : TypeId} {a0 a1 a2 : Value} (h : Blk w g t #[a0, a1, a2]) : w.cell? ⟨g, 0, none⟩ = some a0 ∧ w.cell? ⟨g, 1, none⟩ = some a1 ∧ w.cell? ⟨g, 2, none⟩ = some a2 :=
 ⟨h.cell 0, h.cell 1, h.cell 2⟩
theorem blk9 {w : World} {s0 s2 i : Nat} {t : TypeId} {y a0 a1 a2 a3 a4 a5 a6 a7 : Value} {cs : Array Value} (h : Blk w s2 t cs) (hs : cs.size = 8) (hne : s2 ≠ s0) : Blk (((((((((w.setCell ⟨s0, i, none⟩ y).setCell ⟨s2, 0, none⟩ a0).setCell ⟨s2, 1, none⟩ a1).setCell ⟨s2, 2, none⟩ a2).setCell ⟨s2, 3, none⟩ a3).setCell ⟨s2, 4, none⟩ a4).setCell ⟨s2, 5, none⟩ a5).setCell ⟨s2, 6, none⟩ a6).setCell ⟨s2, 7, none⟩ a7) s2 t #[a0, a1, a2, a3, a4, a5, a6, a7] := by
 have := (h.far (p := ⟨s0, i, none⟩) hne y).whole #[a0, a1, a2, a3, a4, a5, a6, a7] (by rw [hs]; rfl)
 exact this
theorem kp9 {S : Nat → Prop} {a w : World} {s0 s2 i : Nat} {y a0 a1 a2 a3 a4 a5 a6 a7 : Value} (h : Kp S a w) (h0 : a.heap.size ≤ s0 ∨ S s0) (h2 : a.heap.size ≤ s2 ∨ S s2) : Kp S a (((((((((w.setCell ⟨s0, i, none⟩ y).setCell ⟨s2, 0, none⟩ a0).setCell ⟨s2, 1, none⟩ a1).setCell ⟨s2, 2, none⟩ a2).setCell ⟨s2, 3, none⟩ a3).setCell ⟨s2, 4, none⟩ a4).setCell ⟨s2, 5, none⟩ a5).setCell ⟨s2, 6, none⟩ a6).setCell ⟨s2, 7, none⟩ a7) :=
 ((((((((h.setCell (p := ⟨s0, i, none⟩) h0 y).setCell (p := ⟨s2, 0, none⟩) h2 a0).setCell (p := ⟨s2, 1, none⟩) h2 a1).setCell (p := ⟨s2, 2, none⟩) h2 a2).setCell (p := ⟨s2, 3, none⟩) h2 a3).setCell (p := ⟨s2, 4, none⟩) h2 a4).setCell (p := ⟨s2, 5, none⟩) h2 a5).setCell (p := ⟨s2, 6, none⟩) h2 a6).setCell (p := ⟨s2, 7, none⟩) h2 a7
set_option maxRecDepth 100000 in
set_option maxHeartbeats 1600000 in
theorem with_raw (w : World) (A : Option Addr) (n c : Nat) (fs : List Rfile) (b0 b1 : Bool) (pA : Option Addr) (pn pc : Nat) (x4 x5 x6 x7 : Int) (f : Rfile) (hF : Rows w A n 3 (fs.map rfCells)) (hA : A = none → n = 0 ∧ c = 0) (hn : n < 1099511627776) :
  Calls Tryz.prog 65 #[.agg #[.bool b0, .bool b1, .slice A n c, .slice pA pn pc, .int .i64 x4, .int .i64 x5, .int .i64 x6, .int .i64 x7], .agg #[.string f.nm, .string (strOf f.seen), .string (strOf f.kept)]] w fun e w' =>
   ∃ A' n' c', e = .returned (.agg #[.bool b0, .bool b1, .slice A' n' c', .slice pA pn pc, .int .i64 x4, .int .i64 x5, .int .i64 x6, .int .i64 x7]) ∧ Rows w' A' n' 3 ((putR fs f).map rfCells) ∧ (A' = none → n' = 0 ∧ c' = 0) ∧ n' ≤ n + 1 ∧ Kp NoB w w' := by
 have HF := zh hF
 have HA := zh hA
 have HN := zh hn
 have HFL : Hid (fs.length = n) := zh (by have := hF.1; simpa using this)
 obtain ⟨j0, hj0, hj1⟩ := Option.map_eq_some_iff.1 infoRfile
 simp only [Prod.mk.injEq] at hj1
 have HJ0 := zh hj0
 have HY0 := zh hj1.1
 have HY1 := zh hj1.2.1
 have HY2 := zh hj1.2.2
 clear hF hA hn hj0 hj1
 go_enter Tryz.func65, Tryz.ntmps65
 go_upto_region 1 with fail
 have hB0 : Blk (((w.alloc (.cells #[.bool b0, .bool b1, .slice A n c, .slice pA pn pc, .int .i64 x4, .int .i64 x5, .int .i64 x6, .int .i64 x7] 29)).alloc (.cells #[.string f.nm, .string (strOf f.seen), .string (strOf f.kept)] 72)).alloc (.cells #[.bool false, .bool false, .slice none 0 0, .slice none 0 0, .int .i64 0, .int .i64 0, .int .i64 0, .int .i64 0] 29)) w.heap.size 29 #[.bool b0, .bool b1, .slice A n c, .slice pA pn pc, .int .i64 x4, .int .i64 x5, .int .i64 x6, .int .i64 x7] := ((Blk.new w _ _).alloc _).alloc _
 have hB1 : Blk (((w.alloc (.cells #[.bool b0, .bool b1, .slice A n c, .slice pA pn pc, .int .i64 x4, .int .i64 x5, .int .i64 x6, .int .i64 x7] 29)).alloc (.cells #[.string f.nm, .string (strOf f.seen), .string (strOf f.kept)] 72)).alloc (.cells #[.bool false, .bool false, .slice none 0 0, .slice none 0 0, .int .i64 0, .int .i64 0, .int .i64 0, .int .i64 0] 29)) (w.heap.size + 1) 72 #[.string f.nm, .string (strOf f.seen), .string (strOf f.kept)] := (Blk.top (by simp)).alloc _
 have hB2 : Blk (((w.alloc (.cells #[.bool b0, .bool b1, .slice A n c, .slice pA pn pc, .int .i64 x4, .int .i64 x5, .int .i64 x6, .int .i64 x7] 29)).alloc (.cells #[.string f.nm, .string (strOf f.seen), .string (strOf f.kept)] 72)).alloc (.cells #[.bool false, .bool false, .slice none 0 0, .slice none 0 0, .int .i64 0, .int .i64 0, .int .i64 0, .int .i64 0] 29)) (w.heap.size + 1 + 1) 29 #[.bool false, .bool false, .slice none 0 0, .slice none 0 0, .int .i64 0, .int .i64 0, .int .i64 0, .int .i64 0] := Blk.top (by simp)
 have hKW : Kp NoB w (((w.alloc (.cells #[.bool b0, .bool b1, .slice A n c, .slice pA pn pc, .int .i64 x4, .int .i64 x5, .int .i64 x6, .int .i64 x7] 29)).alloc (.cells #[.string f.nm, .string (strOf f.seen), .string (strOf f.kept)] 72)).alloc (.cells #[.bool false, .bool false, .slice none 0 0, .slice none 0 0, .int .i64 0, .int .i64 0, .int .i64 0, .int .i64 0] 29)) := (((Kp.refl NoB w).alloc _).alloc _).alloc _
 have hsz : (((w.alloc (.cells #[.bool b0, .bool b1, .slice A n c, .slice pA pn pc, .int .i64 x4, .int .i64 x5, .int .i64 x6, .int .i64 x7] 29)).alloc (.cells #[.string f.nm, .string (strOf f.seen), .string (strOf f.kept)] 72)).alloc (.cells #[.bool false, .bool false, .slice none 0 0, .slice none 0 0, .int .i64 0, .int .i64 0, .int .i64 0, .int .i64 0] 29)).heap.size = w.heap.size + 3 := by simp
 generalize ((w.alloc (.cells #[.bool b0, .bool b1, .slice A n c, .slice pA pn pc, .int .i64 x4, .int .i64 x5, .int .i64 x6, .int .i64 x7] 29)).alloc (.cells #[.string f.nm, .string (strOf f.seen), .string (strOf f.kept)] 72)).alloc (.cells #[.bool false, .bool false, .slice none 0 0, .slice none 0 0, .int .i64 0, .int .i64 0, .int .i64 0, .int .i64 0] 29) = W at hB0 hB1 hB2 hKW hsz ⊢
 generalize hs0 : w.heap.size = s0 at hB0 hB1 hB2 hsz ⊢
 have HS0 := zh hs0
 clear hs0
 have HB0 := zh hB0
 have HB1 := zh hB1
 have HB2 := zh hB2
 have HKW := zh hKW
 have HSZ := zh hsz
 have HOWN : Hid ((W.alloc (.cells #[] 72)).ownsRow W.heap.size 72 3 (.slice (some ⟨W.heap.size, 0, none⟩) 0 0) 0 []) := zh ⟨rfl, .inr ⟨W.heap.size, 0, #[], rfl, Nat.le_refl _, heap_alloc_new _ _, Nat.le_refl _, by simp, rfl, rfl⟩⟩
 have e2 : W.cell? ⟨s0, 2, none⟩ = some (.slice A n c) := by rw [hB0.cell]; rfl
 have hl := hB0.lt
 clear hB0 hB1 hB2 hKW hsz
 go_upto_region 2 with (at_builtin; refine wpList_append_srcN rfl _ _ 26 rfl W.heap.size 72 j0 _ 3 48 Tryz.underlying26 HJ0.out HY0.out HY1.out HY2.out rfl (by omega) _ 0 [] rfl HOWN.out A n c (fs.map rfCells).flatten rfl HA.out (by rw [flat_len 3 _ (rf_len fs), List.length_map, HFL.out]) (fun hn => ((HF.out.keep HKW.out).keep ((Kp.refl NoB W).alloc _)).src hn (by omega)) (rf_one fs) (by have := HN.out; unfold maxLen; omega) (by have := HN.out; omega) (by simp) ?_; intro v1 w1 hown1 hgrow1; rw [Nat.zero_add, List.nil_append] at hown1; have HO1 := zh hown1; have hk1 := (((Kp.refl NoB W).alloc _).own (v := .slice (some ⟨W.heap.size, 0, none⟩) 0 0) hgrow1 rfl HOWN.out); have HK1 := zh hk1; obtain ⟨B, cb, rfl⟩ := own_slice hown1; clear hown1 hgrow1)
 have hb0 := HB0.out.keep hk1 (fun q => q)
 have hb1 := HB1.out.keep hk1 (fun q => q)
 have HC0 := zh hb0
 have HC1 := zh hb1
 have HD2 := zh (HB2.out.keep hk1 (fun q => q))
 obtain ⟨c0, c1, c2, c3, c4, c5, c6, c7⟩ := hb0.c8
 obtain ⟨d0, d1, d2⟩ := hb1.c3
 clear hb0 hb1 e2 hk1 hl
 go_wp2_with fail
 refine (find_raw w1 A n c fs b0 b1 pA pn pc x4 x5 x6 x7 f.nm ((HF.out.keep HKW.out).keep HK1.out) (by have := HN.out; omega)).mono ?_
 rintro e w2 ⟨rfl, hk⟩
 have HO2 := zh (own_keepB HO1.out hk (fun _ _ q => q))
 have HK2 := zh (HK1.out.trans hk (fun _ _ q => q))
 have hb0 := HC0.out.keep hk (fun q => q)
 have hb1 := HC1.out.keep hk (fun q => q)
 have hb2 := HD2.out.keep hk (fun q => q)
 have HE0 := zh hb0
 have HE1 := zh hb1
 have HE2 := zh hb2
 clear c0 c1 c2 c3 c4 c5 c6 c7 d0 d1 d2 hk
 rcases findI_cases fs f.nm with ⟨h1, h2, h3⟩ | ⟨k, f', h1, hfk, he, h2, h3⟩
 ·rw [h1]
  have H3 := zh h3
  clear h1 h2 h3 hb0 hb2
  obtain ⟨d0, d1, d2⟩ := hb1.c3
  clear hb1
  go_upto_region 6 with (at_builtin; refine wpList_append_ownB rfl _ _ 26 rfl W.heap.size 72 j0 _ 3 48 Tryz.underlying26 HJ0.out HY0.out HY1.out HY2.out rfl (by omega) _ n (fs.map rfCells).flatten rfl (own_keepB HO2.out ((Kp.refl NoB w2).alloc _) (fun _ _ q => q)) ⟨w2.heap.size, 0, none⟩ 1 1 (rfCells f) rfl rfl (cells_newR _ _ _) (by simp [rfCells, Value.oneCell']) (by have := HN.out; unfold maxLen; omega) (by have := HN.out; omega) (by have := HK2.out.size; simp; omega) ?_; intro v3 w3 hown3 hgrow3 _; have HO3 := zh hown3; have hk3 := (HK2.out.alloc _).own hgrow3 rfl HO2.out; have HK3 := zh hk3; obtain ⟨B3, c3, rfl⟩ := own_slice hown3; clear hown3 hgrow3)
  clear d0 d1 d2
  have hb0 := HB0.out.keep hk3 (fun q => q)
  have hb2 := HB2.out.keep hk3 (fun q => q)
  have HX0 := zh hb0
  have HX2 := zh hb2
  obtain ⟨c0, c1, c2, c3', c4, c5, c6, c7⟩ := hb0.c8
  obtain ⟨y0, y1, y2, y3, y4, y5, y6, y7⟩ := hb2.c8
  have f2 := hb0.frozen 2
  obtain ⟨z0, z1, z2, z3, z4, z5, z6, z7⟩ := hb2.z8
  clear hb0 hb2 hk3
  go_wp2_with fail
  have kz : w.heap.size ≤ s0 := by have := HS0.out; omega
  have kz2 : w.heap.size ≤ s0 + 1 + 1 := by omega
  refine bodyPost_ret (results_cell_row rfl _ _ _ _ _ _ _ rfl (blk9 HX2.out rfl (by omega)) Tryz.underlying29 rfl (by exact infoRd)) rfl ⟨B3, n + 1, c3, rfl, ?_, fun q => ?_, Nat.le_refl _, kp9 (HKW.out.trans HK3.out (fun _ _ q => q)) (.inl kz) (.inl kz2)⟩
  ·have hkp := kp9 (S := fun b => b = s0 ∨ b = s0 + 1 + 1) (s0 := s0) (s2 := s0 + 1 + 1) (i := 2) (y := .slice B3 (n + 1) c3) (a0 := .bool b0) (a1 := .bool b1) (a2 := .slice B3 (n + 1) c3) (a3 := .slice pA pn pc) (a4 := .int .i64 x4) (a5 := .int .i64 x5) (a6 := .int .i64 x6) (a7 := .int .i64 x7) (Kp.refl _ w3) (.inr (.inl rfl)) (.inr (.inr rfl))
   have ho := own_keepB HO3.out hkp (fun g hg q => by
    have h1 := own_ge HO3.out g hg
    have h2 := HSZ.out
    rcases q with q | q <;> omega)
   have hp : putR fs f = fs ++ [f] := by
    unfold putR
    rw [List.findIdx?_eq_none_iff.2 (fun x hx => by simpa using H3.out x hx)]
   refine Rows.own (base := W.heap.size) (e := 72) (cap := c3) ?_ (by rw [hp, List.length_map, List.length_append, HFL.out]; rfl) (rf_len _)
   rw [hp, List.map_append, List.flatten_append]
   simpa using ho
  ·have := own_nil HO3.out q
   omega
 ·have hkl : k < fs.length := (List.getElem?_eq_some_iff.1 hfk).1
  have hkn : k < n := by have := HFL.out; omega
  obtain ⟨g, ds, rfl, hg, hbb, hbl, _⟩ := own_full HO2.out (by omega)
  have hfk2 : (fs.map rfCells)[k]'(by simpa using hkl) = rfCells f' := by
   rw [List.getElem_map]
   obtain ⟨_, e⟩ := List.getElem?_eq_some_iff.1 hfk
   rw [e]
  have hat : ∀ j v, j < 3 → (rfCells f')[j]? = some v → w2.cell? ⟨g, k * 3 + j, none⟩ = some v := fun j v hj hv => by
   rw [hbb.cell, List.getElem?_toArray, List.getElem?_append_left (by rw [flat_len 3 _ (rf_len fs), List.length_map]; omega), flat_at 3 _ (rf_len fs) k j hj (by simpa using hkl), hfk2]
   exact hv
  have q0 := hat 0 _ (by omega) rfl
  have q1 := hat 1 _ (by omega) rfl
  have q2 := hat 2 _ (by omega) rfl
  rw [Nat.add_zero] at q0
  have r0 := hbb.frozen (k * 3)
  have r1 := hbb.frozen (k * 3 + 1)
  have r2 := hbb.frozen (k * 3 + 2)
  have hbs : Blk (((w2.setCell ⟨g, k * 3, none⟩ (.string f.nm)).setCell ⟨g, k * 3 + 1, none⟩ (.string (strOf f.seen))).setCell ⟨g, k * 3 + 2, none⟩ (.string (strOf f.kept))) g _ _ := ((hbb.set_ (k * 3) (.string f.nm)).set_ (k * 3 + 1) (.string (strOf f.seen))).set_ (k * 3 + 2) (.string (strOf f.kept))
  have HG := zh hg
  have HBS := zh hbs
  have HBL := zh hbl
  have HKL := zh hkl
  have H1F := zh (show (fs.findIdx? fun x => decide (x.nm = f.nm)) = some k by
   unfold findI at h1
   split at h1
   ·rename_i i hi
    rw [hi]
    congr 1
    omega
   ·omega)
  have hkk : (k : Int) < (n : Int) := by omega
  obtain ⟨d0, d1, d2⟩ := hb1.c3
  have n0 : s0 ≠ g := by have := HSZ.out; omega
  have n1 : s0 + 1 ≠ g := by have := HSZ.out; omega
  have n2 : s0 + 1 + 1 ≠ g := by have := HSZ.out; omega
  rw [h1]
  clear hb1 hb0 hb2 h1 h2 h3 hfk he hfk2 hat hbb hbl hbs hg hkl
  go_upto_region 6 with fail
  have hb0 := ((HE0.out.far (p := ⟨g, k * 3, none⟩) n0 (.string f.nm)).far (p := ⟨g, k * 3 + 1, none⟩) n0 (.string (strOf f.seen))).far (p := ⟨g, k * 3 + 2, none⟩) n0 (.string (strOf f.kept))
  have hb2 := ((HE2.out.far (p := ⟨g, k * 3, none⟩) n2 (.string f.nm)).far (p := ⟨g, k * 3 + 1, none⟩) n2 (.string (strOf f.seen))).far (p := ⟨g, k * 3 + 2, none⟩) n2 (.string (strOf f.kept))
  have hk3 : Kp NoB W (((w2.setCell ⟨g, k * 3, none⟩ (.string f.nm)).setCell ⟨g, k * 3 + 1, none⟩ (.string (strOf f.seen))).setCell ⟨g, k * 3 + 2, none⟩ (.string (strOf f.kept))) := ((HK2.out.setCell (.inl HG.out) _).setCell (.inl HG.out) _).setCell (.inl HG.out) _
  have hbs := HBS.out
  clear q0 q1 q2 r0 r1 r2 d0 d1 d2 n0 n1 n2
  generalize ((w2.setCell ⟨g, k * 3, none⟩ (.string f.nm)).setCell ⟨g, k * 3 + 1, none⟩ (.string (strOf f.seen))).setCell ⟨g, k * 3 + 2, none⟩ (.string (strOf f.kept)) = w3 at hb0 hb2 hk3 hbs ⊢
  have HK3 := zh hk3
  have HBT := zh hbs
  clear hk3 hbs
  have HX0 := zh hb0
  have HX2 := zh hb2
  obtain ⟨c0, c1, c2, c3', c4, c5, c6, c7⟩ := hb0.c8
  obtain ⟨y0, y1, y2, y3, y4, y5, y6, y7⟩ := hb2.c8
  have f2 := hb0.frozen 2
  obtain ⟨z0, z1, z2, z3, z4, z5, z6, z7⟩ := hb2.z8
  clear hb0 hb2
  go_wp2_with fail
  have kz : w.heap.size ≤ s0 := by have := HS0.out; omega
  have kz2 : w.heap.size ≤ s0 + 1 + 1 := by omega
  refine bodyPost_ret (results_cell_row rfl _ _ _ _ _ _ _ rfl (blk9 HX2.out rfl (by omega)) Tryz.underlying29 rfl (by exact infoRd)) rfl ⟨some ⟨g, 0, none⟩, n, cb, rfl, ?_, (fun q => nomatch q), Nat.le_succ _, kp9 (HKW.out.trans HK3.out (fun _ _ q => q)) (.inl kz) (.inl kz2)⟩
  have hkp := kp9 (S := fun b => b = s0 ∨ b = s0 + 1 + 1) (s0 := s0) (s2 := s0 + 1 + 1) (i := 2) (y := .slice (some ⟨g, 0, none⟩) n cb) (a0 := .bool b0) (a1 := .bool b1) (a2 := .slice (some ⟨g, 0, none⟩) n cb) (a3 := .slice pA pn pc) (a4 := .int .i64 x4) (a5 := .int .i64 x5) (a6 := .int .i64 x6) (a7 := .int .i64 x7) (Kp.refl _ w3) (.inr (.inl rfl)) (.inr (.inr rfl))
  have hp : putR fs f = fs.set k f := by
   unfold putR
   rw [H1F.out]
  rw [hp, List.map_set]
  have hsz : (fs.map rfCells).length * 3 ≤ ((fs.map rfCells).flatten ++ ds).toArray.size := by
   simp only [List.size_toArray, List.length_append, flat_len 3 _ (rf_len fs)]
   omega
  refine ⟨by rw [List.length_set, List.length_map, HFL.out], fun x hx => ?_, fun _ => ⟨g, 0, ⟨72, by decide⟩, _, rfl, HBT.out.keep hkp (fun q => by have h1 := HG.out; have h2 := HSZ.out; rcases q with q | q <;> omega), ?_, fun i hi j hj => ?_⟩⟩
  ·rcases List.mem_or_eq_of_mem_set hx with q | q
   ·exact rf_len fs x q
   ·rw [q]; rfl
  ·simp only [Array.size_setIfInBounds]
   rw [List.length_map, HFL.out] at hsz
   omega
  ·rw [Nat.zero_add]
   exact set3_at (rf_len fs) (by simpa using HKL.out) hsz (fun i h j hj => by
    rw [List.getElem?_toArray, List.getElem?_append_left (by rw [flat_len 3 _ (rf_len fs)]; omega), flat_at 3 _ (rf_len fs) i j hj h]) i hi j hj
end
section
open Go.RowKit
attribute [local go_sem ↓] conv64
theorem infoU8z : (Tryz.prog.info? 5).map (fun i => (i.zero, i.size, i.bytes)) = some (some (.int .u8 0), 1, 1) := by kernel_rfl
theorem made_zeros (n : Nat) : madeCells #[.int .u8 0] n = bytesV (zeros n) := by
 unfold madeCells bytesV zeros
 apply Array.ext
 ·simp
 ·intro i h1 h2
  simp [Nat.mod_one]
set_option maxRecDepth 100000 in
set_option maxHeartbeats 800000 in
theorem zeros_ok (w : World) (n : Nat) (hn : n ≤ 1099511627776) :
  Calls Tryz.prog 106 #[.int .i64 n] w fun e w' => e = .returned (.string (strOf (zeros n))) ∧ Kp NoB w w' := by
 have hmk := run_make_row' (P := Tryz.prog) 68 5 (.int .u8 0) 1 Tryz.underlying68 infoU8z rfl .i64 .i64 n (by omega) (by omega) w
 rw [made_zeros] at hmk
 have hb := Blk.new w 5 (bytesV (zeros n))
 have h1 := hb.byAt 0 n (by simp [zeros])
 have h2 := hb.byRd 0 n (by simp [zeros])
 have h3 : ((zeros n).drop 0).take n = zeros n := by rw [List.drop_zero, List.take_of_length_le (by simp [zeros])]
 rw [h3] at h2
 clear h3 hb
 go_enter Tryz.func106, Tryz.ntmps106
 go_wp2_with fail
 go_ret
 exact ⟨by rfl, (Kp.refl NoB w).alloc _⟩
theorem strOf_app (l m : List Int) : strOf (l ++ m) = strOf l ++ strOf m := by
 unfold strOf
 apply ByteArray.ext
 simp
theorem strOf_sub (l : List Int) (a b : Nat) : (strOf l).extract a b = strOf ((l.drop a).take (b - a)) := by
 unfold strOf
 apply ByteArray.ext
 simp [ByteArray.data_extract, List.map_take, List.map_drop]
set_option maxRecDepth 100000 in
set_option maxHeartbeats 800000 in
theorem sized_ok (w : World) (l : List Int) (n : Nat) (hl : l.length ≤ 1048576) (hn : n ≤ 1048576) :
  Calls Tryz.prog 75 #[.string (strOf l), .int .i64 n] w fun e w' => e = .returned (.string (strOf (sizedF l n))) ∧ Kp NoB w w' := by
 have hs := strOf_size l
 by_cases h : n ≤ l.length
 ·have hS : Hid (sizedF l n = l.take n) := zh (by unfold sizedF; rw [if_pos h])
  have h' : (n : Int) ≤ (l.length : Int) := by omega
  go_enter Tryz.func75, Tryz.ntmps75
  go_wp2_with fail
  go_ret
  rw [hS.out]
  exact ⟨by show Ending.returned (.string ((strOf l).extract 0 n)) = _; rw [strOf_sub, List.drop_zero, Nat.sub_zero], Kp.refl NoB w⟩
 ·have hS : Hid (sizedF l n = l ++ zeros (n - l.length)) := zh (by unfold sizedF zeros; rw [if_neg h])
  have h' : ¬ (n : Int) ≤ (l.length : Int) := by omega
  have hw : IntKind.i64.wrap ((n : Int) - (l.length : Int)) = ((n - l.length : Nat) : Int) := by rw [IntKind.wrap_i64]; omega
  have hz := strOf_size (zeros (n - l.length))
  have hz2 : (zeros (n - l.length)).length = n - l.length := by simp [zeros]
  rw [hz2] at hz
  clear hz2
  go_enter Tryz.func75, Tryz.ntmps75
  go_wp2_with (go_at_call 106; go_must (refine (zeros_ok w (n - l.length) (by omega)).mono ?_); rintro e w2 ⟨rfl, hk⟩; have HK := zh hk; clear hk)
  go_ret
  rw [hS.out]
  exact ⟨by rw [strOf_app]; rfl, HK.out⟩
end
section
open Go.RowKit
set_option maxRecDepth 100000 in
set_option maxHeartbeats 800000 in
theorem made_ok (w : World) (l : List Int) (c : Cg) (ch : Int) (hl : l.length ≤ 1048576) (hc : CgOk c) (hch : -9223372036854775808 ≤ ch ∧ ch ≤ 9223372036854775807) :
  Calls Tryz.prog 64 #[.string (strOf l), .agg #[.string c.nm, .int .i64 c.sec, .int .i64 c.n, .string (strOf c.s)], .int .i64 ch] w fun e w' => e = .returned (.string (strOf (Pl.made l c ch))) ∧ Kp NoB w w' := by
 have hs := strOf_size l
 by_cases h1 : ch ≤ 0
 ·have hM : Hid (Pl.made l c ch = l) := zh (by unfold Pl.made; rw [if_pos h1])
  clear hc
  go_enter Tryz.func64, Tryz.ntmps64
  go_wp2_with fail
  go_ret
  exact ⟨by rw [hM.out]; rfl, (Kp.refl NoB w).alloc _⟩
 ·rcases hc.kind with ⟨hs0, hsec, hcn0, hcn1⟩ | ⟨hs64, hsec0, hsec1, hn⟩
  ·obtain ⟨n, hn⟩ : ∃ n : Nat, c.n = n := ⟨c.n.toNat, by omega⟩
   have hM : Hid (Pl.made l c ch = sizedF l n) := zh (by unfold Pl.made; rw [if_neg h1, if_pos (by rw [hsec]; omega), hn]; rfl)
   rw [hsec, hn]
   have HN : Hid (n ≤ 1048576) := zh (by omega)
   clear hc hs0 hsec hcn0 hcn1 hn
   go_enter Tryz.func64, Tryz.ntmps64
   go_wp2_with (go_at_call 75; go_must (refine (sized_ok _ l n hl HN.out).mono ?_); rintro e w2 ⟨rfl, hk⟩; have HK := zh hk; clear hk)
   go_ret
   exact ⟨by rw [hM.out]; rfl, ((Kp.refl NoB w).alloc _).trans HK.out (fun _ _ q => q)⟩
  ·obtain ⟨nn, hnn⟩ : ∃ nn : Nat, (if 1 < ch then (1 + (ch - 2) % 63).toNat else 64) = nn := ⟨_, rfl⟩
   have hnn1 : 1 ≤ nn ∧ nn ≤ 64 := by
    rw [← hnn]
    split <;> omega
   obtain ⟨a, hat⟩ : ∃ a : Nat, c.sec.toNat * 64 = a := ⟨_, rfl⟩
   have hw1 : IntKind.i64.wrap (c.sec * 64) = (a : Int) := by rw [IntKind.wrap_i64]; omega
   have hns : ¬ c.sec < 0 := by omega
   have hMM : Pl.made l c ch = Pl.put l a ((c.s.take nn).take (l.length - a)) := by
    unfold Pl.made
    rw [if_neg h1, if_neg (by omega), hnn, hat]
   have HMM := zh hMM
   have hcs := strOf_size c.s
   rw [hs64] at hcs
   have HNN := zh hnn
   have HS64 := zh hs64
   generalize hsc : c.sec = sc at hw1 hns
   clear hc hMM hnn hsec0 hsec1 hat hs64 hsc
   by_cases hge : l.length ≤ a
   ·have hge' : (l.length : Int) ≤ (a : Int) := by omega
    have hM : Hid (Pl.made l c ch = l) := zh (by rw [HMM.out, show l.length - a = 0 by omega, List.take_zero, put_nil])
    by_cases hc1 : 1 < ch
    ·have e1 : 1 + (ch - 2) % 63 = (nn : Int) := by have := HNN.out; rw [if_pos hc1] at this; omega
     have e0 : 0 ≤ ch - 2 := by omega
     have e3 : IntKind.i64.wrap (ch - 2) = ch - 2 := by rw [IntKind.wrap_i64]; omega
     go_enter Tryz.func64, Tryz.ntmps64
     go_wp2_with fail
     go_ret
     exact ⟨by rw [hM.out]; rfl, (Kp.refl NoB w).alloc _⟩
    ·go_enter Tryz.func64, Tryz.ntmps64
     go_wp2_with fail
     go_ret
     exact ⟨by rw [hM.out]; rfl, (Kp.refl NoB w).alloc _⟩
   ·have hlt : ¬ (l.length : Int) ≤ (a : Int) := by omega
    have hw2 : IntKind.i64.wrap ((l.length : Int) - (a : Int)) = ((l.length - a : Nat) : Int) := by rw [IntKind.wrap_i64]; omega
    obtain ⟨m, hm, hm1, hm2⟩ : ∃ m : Nat, (if (nn : Int) ≤ ((l.length - a : Nat) : Int) then nn else l.length - a) = m ∧ m ≤ 64 ∧ a + m ≤ l.length := ⟨_, rfl, by split <;> omega, by split <;> omega⟩
    have hM : Hid (Pl.made l c ch = l.take a ++ c.s.take m ++ l.drop (a + m)) := zh (by
     rw [HMM.out]
     unfold Pl.put
     have e : (c.s.take nn).take (l.length - a) = c.s.take m := by
      rw [List.take_take]
      congr 1
      rw [← hm]
      split <;> omega
     rw [e, List.length_take, HS64.out, Nat.min_eq_left hm1])
    have hw3 : IntKind.i64.wrap ((a : Int) + (m : Int)) = ((a + m : Nat) : Int) := by rw [IntKind.wrap_i64]; omega
    have hfin : Hid ((strOf l).extract 0 a ++ (strOf c.s).extract 0 m ++ (strOf l).extract (a + m) l.length = strOf (Pl.made l c ch)) := zh (by
     rw [hM.out, strOf_app, strOf_app, strOf_sub, strOf_sub, strOf_sub, List.drop_zero, List.drop_zero, Nat.sub_zero, Nat.sub_zero]
     congr 2
     rw [List.take_of_length_le (by simp)])
    clear HMM
    by_cases hc1 : 1 < ch
    ·have e1 : 1 + (ch - 2) % 63 = (nn : Int) := by have := HNN.out; rw [if_pos hc1] at this; omega
     have e0 : 0 ≤ ch - 2 := by omega
     have e3 : IntKind.i64.wrap (ch - 2) = ch - 2 := by rw [IntKind.wrap_i64]; omega
     by_cases hmn : (nn : Int) ≤ ((l.length - a : Nat) : Int)
     ·rw [if_pos hmn] at hm
      subst hm
      go_enter Tryz.func64, Tryz.ntmps64
      go_upto_region 12 with fail
      have i1 : (a : Int) ≤ (l.length : Int) := by omega
      have i2 : (nn : Int) ≤ 64 := by omega
      have i3 : ((a + nn : Nat) : Int) ≤ (l.length : Int) := by omega
      have i4 : a ≤ l.length := by omega
      have x1 : ((strOf l).extract 0 a).size = a := by rw [ByteArray.size_extract]; omega
      have x2 : ((strOf c.s).extract 0 nn).size = nn := by rw [ByteArray.size_extract]; omega
      have x3 : ((strOf l).extract (a + nn) l.length).size = l.length - (a + nn) := by rw [ByteArray.size_extract]; omega
      have x4 : ((strOf l).extract 0 a ++ (strOf c.s).extract 0 nn).size = a + nn := by rw [ByteArray.size_append]; omega
      go_quiet (fail)
      go_wp2_with fail
      go_ret
      exact ⟨by rw [← hfin.out]; rfl, ((Kp.refl NoB w).alloc _).drewN _⟩
     ·rw [if_neg hmn] at hm
      rw [hm] at hw2 hmn
      clear hm
      go_enter Tryz.func64, Tryz.ntmps64
      go_upto_region 12 with fail
      have i1 : (a : Int) ≤ (l.length : Int) := by omega
      have i2 : (m : Int) ≤ 64 := by omega
      have i3 : ((a + m : Nat) : Int) ≤ (l.length : Int) := by omega
      have i4 : a ≤ l.length := by omega
      have x1 : ((strOf l).extract 0 a).size = a := by rw [ByteArray.size_extract]; omega
      have x2 : ((strOf c.s).extract 0 m).size = m := by rw [ByteArray.size_extract]; omega
      have x3 : ((strOf l).extract (a + m) l.length).size = l.length - (a + m) := by rw [ByteArray.size_extract]; omega
      have x4 : ((strOf l).extract 0 a ++ (strOf c.s).extract 0 m).size = a + m := by rw [ByteArray.size_append]; omega
      go_quiet (fail)
      go_wp2_with fail
      go_ret
      exact ⟨by rw [← hfin.out]; rfl, ((Kp.refl NoB w).alloc _).drewN _⟩
    ·have e64 : nn = 64 := by have := HNN.out; rw [if_neg hc1] at this; omega
     subst e64
     by_cases hmn : ((64 : Nat) : Int) ≤ ((l.length - a : Nat) : Int)
     ·rw [if_pos hmn] at hm
      subst hm
      have hmn2 : (64 : Int) ≤ ((l.length - a : Nat) : Int) := by omega
      go_enter Tryz.func64, Tryz.ntmps64
      go_upto_region 12 with fail
      have i1 : (a : Int) ≤ (l.length : Int) := by omega
      have i2 : (64 : Int) ≤ 64 := by omega
      have i3 : ((a + 64 : Nat) : Int) ≤ (l.length : Int) := by omega
      have i4 : a ≤ l.length := by omega
      have x1 : ((strOf l).extract 0 a).size = a := by rw [ByteArray.size_extract]; omega
      have x2 : ((strOf c.s).extract 0 64).size = 64 := by rw [ByteArray.size_extract]; omega
      have x3 : ((strOf l).extract (a + 64) l.length).size = l.length - (a + 64) := by rw [ByteArray.size_extract]; omega
      have x4 : ((strOf l).extract 0 a ++ (strOf c.s).extract 0 64).size = a + 64 := by rw [ByteArray.size_append]; omega
      go_quiet (fail)
      go_wp2_with fail
      go_ret
      exact ⟨by rw [← hfin.out]; rfl, ((Kp.refl NoB w).alloc _).drewN _⟩
     ·rw [if_neg hmn] at hm
      rw [hm] at hw2 hmn
      have hmn2 : ¬ (64 : Int) ≤ (m : Int) := by omega
      clear hm
      go_enter Tryz.func64, Tryz.ntmps64
      go_upto_region 12 with fail
      have i1 : (a : Int) ≤ (l.length : Int) := by omega
      have i2 : (m : Int) ≤ 64 := by omega
      have i3 : ((a + m : Nat) : Int) ≤ (l.length : Int) := by omega
      have i4 : a ≤ l.length := by omega
      have x1 : ((strOf l).extract 0 a).size = a := by rw [ByteArray.size_extract]; omega
      have x2 : ((strOf c.s).extract 0 m).size = m := by rw [ByteArray.size_extract]; omega
      have x3 : ((strOf l).extract (a + m) l.length).size = l.length - (a + m) := by rw [ByteArray.size_extract]; omega
      have x4 : ((strOf l).extract 0 a ++ (strOf c.s).extract 0 m).size = a + m := by rw [ByteArray.size_append]; omega
      go_quiet (fail)
      go_wp2_with fail
      go_ret
      exact ⟨by rw [← hfin.out]; rfl, ((Kp.refl NoB w).alloc _).drewN _⟩
end
section
open Go.RowKit
def FitRel (fs : List Rfile) (b : Int) (v7 v8 : Value) : Prop := ∃ k : Nat, v8 = .int .i64 (k : Int) ∧ k ≤ fs.length ∧ v7 = .int .i64 (wrp (b + sumR (fs.take k)))
theorem sumR_next {fs : List Rfile} {k : Nat} {f : Rfile} (h : fs[k]? = some f) : sumR (fs.take (k + 1)) = sumR (fs.take k) + f.seen.length := by
 rw [List.take_add_one, h]
 unfold sumR
 simp
def fitsR (fs : List Rfile) (room : Int) (s : ByteArray) (n : Int) : Int :=
 if 1048576 < n then 3 else if ((seenR fs s).length : Int) < n ∧ room < wrp (n - (seenR fs s).length + sumR fs) then 5 else 0
set_option maxRecDepth 100000 in
set_option maxHeartbeats 800000 in
theorem fits_raw (w : World) (A : Option Addr) (n c : Nat) (fs : List Rfile) (b0 b1 : Bool) (pA : Option Addr) (pn pc : Nat) (x4 x5 x6 x7 : Int) (s : ByteArray) (m : Int) (hF : Rows w A n 3 (fs.map rfCells)) (hn : n ≤ 9223372036854775807) (hm : 0 ≤ m ∧ m ≤ 9223372036854775807) (hl : (seenR fs s).length ≤ 1048576) :
  Calls Tryz.prog 72 #[.agg #[.bool b0, .bool b1, .slice A n c, .slice pA pn pc, .int .i64 x4, .int .i64 x5, .int .i64 x6, .int .i64 x7], .string s, .int .i64 m] w fun e w' => e = .returned (.int .i64 (fitsR fs x4 s m)) ∧ Kp NoB w w' := by
 have HF := zh hF
 have HN := zh hn
 have HFL : Hid (fs.length = n) := zh (by have := hF.1; simpa using this)
 obtain ⟨L, hL⟩ : ∃ L, (seenR fs s).length = L := ⟨_, rfl⟩
 have HLL := zh hL
 have hsz : (strOf (seenR fs s)).size = L := by rw [strOf_size, hL]
 rw [hL] at hl
 clear hF hn hL
 by_cases h1 : (1048576 : Int) < m
 ·have hR : Hid (fitsR fs x4 s m = 3) := zh (by unfold fitsR; rw [if_pos h1])
  go_enter Tryz.func72, Tryz.ntmps72
  go_wp2_with fail
  go_ret
  exact ⟨by rw [hR.out]; rfl, (Kp.refl NoB w).alloc _⟩
 have hw : IntKind.i64.wrap (m - (L : Int)) = m - (L : Int) := by rw [IntKind.wrap_i64]; omega
 by_cases h2 : m - (L : Int) ≤ 0
 ·have hR : Hid (fitsR fs x4 s m = 0) := zh (by unfold fitsR; rw [if_neg h1, if_neg (by rw [HLL.out]; omega)])
  go_enter Tryz.func72, Tryz.ntmps72
  go_wp2_with (go_at_call 10; go_must (refine (seen_raw _ A n c fs b0 b1 pA pn pc x4 x5 x6 x7 s (HF.out.keep ((Kp.refl NoB w).alloc _)) HN.out).mono ?_); rintro e w2 ⟨rfl, hk⟩; have HK := zh hk; clear hk)
  go_ret
  exact ⟨by rw [hR.out]; rfl, ((Kp.refl NoB w).alloc _).trans HK.out (fun _ _ q => q)⟩
 have hR : Hid (fitsR fs x4 s m = if x4 < wrp (m - (L : Int) + sumR fs) then 5 else 0) := zh (by
  unfold fitsR
  rw [if_neg h1, HLL.out]
  by_cases q : x4 < wrp (m - (L : Int) + sumR fs)
  ·rw [if_pos ⟨by omega, q⟩, if_pos q]
  ·rw [if_neg (fun z => q z.2), if_neg q])
 go_enter Tryz.func72, Tryz.ntmps72
 go_wp2_with fail
 refine (seen_raw _ A n c fs b0 b1 pA pn pc x4 x5 x6 x7 s (HF.out.keep ((Kp.refl NoB w).alloc _)) HN.out).mono ?_
 rintro e w2 ⟨rfl, hk⟩
 have hkw := ((Kp.refl NoB w).alloc _).trans hk (fun _ _ q => q)
 have HKW := zh hkw
 have b2 := (Blk.new w 29 #[.bool b0, .bool b1, .slice A n c, .slice pA pn pc, .int .i64 x4, .int .i64 x5, .int .i64 x6, .int .i64 x7]).keep hk (fun q => q)
 have e2 : w2.cell? ⟨w.heap.size, 2, none⟩ = some (.slice A n c) := by rw [b2.cell]; rfl
 have e4 : w2.cell? ⟨w.heap.size, 4, none⟩ = some (.int .i64 x4) := by rw [b2.cell]; rfl
 have HF2 := zh (HF.out.keep hkw)
 have HZ : Hid (∀ f ∈ fs, f.seen.length ≤ 9223372036854775807 → True) := zh (fun _ _ _ => trivial)
 clear hk hkw b2
 go_wp2_with fail
 go_loop [7, 8] (fun v7 v8 => FitRel fs (m - (L : Int)) v7 v8) (fun _ v8 => n - (intOf v8).toNat)
 case atStart => exact ⟨0, rfl, Nat.zero_le _, by rw [List.take_zero, show sumR [] = 0 from rfl, Int.add_zero, wrp_id (by omega)]⟩
 case round =>
  obtain ⟨k, rfl, hk, rfl⟩ := hrel
  have HK := zh hk
  clear hk
  by_cases hlt : k < n
  ·have hkl : k < fs.length := by have := HFL.out; omega
   obtain ⟨f, hf⟩ : ∃ f, fs[k] = f := ⟨_, rfl⟩
   have hfk : fs[k]? = some f := by rw [List.getElem?_eq_getElem hkl, hf]
   have HFK := zh hfk
   obtain ⟨g, o, rfl, hg, hc⟩ := HF2.out.cell (k := k) (x := rfCells f) (by rw [List.getElem?_map, hfk]; rfl)
   have c1 := hc 1 _ rfl
   have hkk : (k : Int) < (n : Int) := by omega
   have hnn := HN.out
   have hsf := strOf_size f.seen
   have hwr : IntKind.i64.wrap (wrp (m - (L : Int) + sumR (fs.take k)) + (f.seen.length : Int)) = wrp (m - (L : Int) + sumR (fs.take (k + 1))) := by
    show wrp (wrp (m - (L : Int) + sumR (fs.take k)) + (f.seen.length : Int)) = _
    rw [wrp_add, sumR_next hfk, Int.add_assoc]
   clear hc hf hfk hkl
   go_wp2_with fail
   go_round
   case rel => exact ⟨k + 1, by go_num, by have := HFL.out; omega, rfl⟩
   case measure => simp [intOf]; omega
  ·have hlt' : ¬ (k : Int) < (n : Int) := by omega
   have hall : fs.take k = fs := List.take_of_length_le (by have := HFL.out; omega)
   rw [hall]
   clear hall
   by_cases q : x4 < wrp (m - (L : Int) + sumR fs)
   ·go_wp2_with fail
    go_ret
    exact ⟨by rw [hR.out, if_pos q]; rfl, HKW.out⟩
   ·go_wp2_with fail
    go_ret
    exact ⟨by rw [hR.out, if_neg (by omega)]; rfl, HKW.out⟩
end
section
open Go.RowKit
theorem putR_cases (fs : List Rfile) (f : Rfile) : (putR fs f = fs ++ [f] ∧ ∀ x ∈ fs, x.nm ≠ f.nm) ∨ ∃ (k : Nat) (f' : Rfile), putR fs f = fs.set k f ∧ fs[k]? = some f' ∧ f'.nm = f.nm ∧ ∀ x ∈ fs.take k, x.nm ≠ f.nm := by
 rcases findI_cases fs f.nm with ⟨_, _, h⟩ | ⟨k, f', h1, hfk, he, _, h⟩
 ·refine .inl ⟨?_, h⟩
  unfold putR
  rw [List.findIdx?_eq_none_iff.2 (fun x hx => by simpa using h x hx)]
 ·refine .inr ⟨k, f', ?_, hfk, he, h⟩
  unfold findI at h1
  unfold putR
  cases hi : fs.findIdx? (fun x => decide (x.nm = f.nm)) with
  | none =>
   rw [hi] at h1
   simp at h1
  | some i =>
   rw [hi] at h1
   have : i = k := by
    simp only at h1
    omega
   rw [this]
theorem findR_app (fs : List Rfile) (f : Rfile) (t : ByteArray) : findR (fs ++ [f]) t = match findR fs t with | some x => some x | none => if f.nm = t then some f else none := by
 unfold findR
 rw [List.find?_append]
 cases h : fs.find? (fun f => decide (f.nm = t)) with
 | some x => rfl
 | none =>
  by_cases q : f.nm = t <;> simp [q]
theorem findR_set (fs : List Rfile) (f f' : Rfile) (t : ByteArray) : ∀ (k : Nat), fs[k]? = some f' → f'.nm = f.nm → (∀ x ∈ fs.take k, x.nm ≠ f.nm) → findR (fs.set k f) t = if f.nm = t then some f else findR fs t := by
 induction fs with
 | nil => intro k h; simp at h
 | cons y r ih =>
  intro k h he hn
  cases k with
  | zero =>
   simp only [List.getElem?_cons_zero, Option.some.injEq] at h
   subst h
   unfold findR
   by_cases q : f.nm = t
   ·simp [q]
   ·simp [q, he]
  | succ k =>
   have hy : y.nm ≠ f.nm := hn y (by simp)
   have := ih k (by simpa using h) he (fun x hx => hn x (by simp [hx]))
   unfold findR at this ⊢
   rw [List.set_cons_succ, List.find?_cons, List.find?_cons]
   by_cases q : y.nm = t
   ·have : f.nm ≠ t := fun z => hy (q.trans z.symm)
    simp [q, this]
   ·simp only [q, decide_false]
    exact this
theorem findR_put (fs : List Rfile) (f : Rfile) (t : ByteArray) : findR (putR fs f) t = if f.nm = t then some f else findR fs t := by
 rcases putR_cases fs f with ⟨e, h⟩ | ⟨k, f', e, hfk, he, h⟩
 ·rw [e, findR_app]
  by_cases q : f.nm = t
  ·rw [if_pos q, ← q, (findI_none h).2]
   simp
  ·rw [if_neg q]
   cases findR fs t with
   | some x => simp [q]
   | none => simp [q]
 ·rw [e]
  exact findR_set fs f f' t k hfk he h
theorem seenR_put (fs : List Rfile) (f : Rfile) : seenR (putR fs f) = upd (seenR fs) f.nm f.seen := by
 funext t
 unfold seenR upd
 rw [findR_put]
 by_cases q : t = f.nm
 ·subst q; simp
 ·rw [if_neg (fun z => q z.symm), if_neg q]
theorem keptR_put (fs : List Rfile) (f : Rfile) : keptR (putR fs f) = upd (keptR fs) f.nm f.kept := by
 funext t
 unfold keptR upd
 rw [findR_put]
 by_cases q : t = f.nm
 ·subst q; simp
 ·rw [if_neg (fun z => q z.symm), if_neg q]
theorem sum_set (fs : List Rfile) (g : Rfile → Int) (f f' : Rfile) : ∀ (k : Nat), fs[k]? = some f' → ((fs.set k f).map g).sum = (fs.map g).sum - g f' + g f := by
 induction fs with
 | nil => intro k h; simp at h
 | cons y r ih =>
  intro k h
  cases k with
  | zero =>
   simp only [List.getElem?_cons_zero, Option.some.injEq] at h
   subst h
   simp only [List.set_cons_zero, List.map_cons, List.sum_cons]
   omega
  | succ k =>
   have := ih k (by simpa using h)
   simp only [List.set_cons_succ, List.map_cons, List.sum_cons, this]
   omega
theorem sumR_put (fs : List Rfile) (hn : fs.Pairwise fun x y => x.nm ≠ y.nm) (f : Rfile) : sumR (putR fs f) = sumR fs - (seenR fs f.nm).length + f.seen.length ∧ ksumR (putR fs f) = ksumR fs - (keptR fs f.nm).length + f.kept.length := by
 rcases putR_cases fs f with ⟨e, h⟩ | ⟨k, f', e, hfk, he, h⟩
 ·have h0 := (findI_none h).2
  rw [e]
  unfold sumR ksumR seenR keptR
  rw [h0]
  simp
 ·have h0 := (findI_at h hfk he).2
  rw [e]
  unfold sumR ksumR seenR keptR
  rw [h0, sum_set fs _ f f' k hfk, sum_set fs _ f f' k hfk]
  exact ⟨rfl, rfl⟩
theorem putR_names {fs : List Rfile} (hn : fs.Pairwise fun x y => x.nm ≠ y.nm) (f : Rfile) : (putR fs f).Pairwise fun x y => x.nm ≠ y.nm := by
 rcases putR_cases fs f with ⟨e, h⟩ | ⟨k, f', e, hfk, he, h⟩
 ·rw [e, List.pairwise_append]
  exact ⟨hn, List.pairwise_singleton _ _, fun x hx y hy => by rw [List.mem_singleton.1 hy]; exact h x hx⟩
 ·rw [e]
  have hk := (List.getElem?_eq_some_iff.1 hfk).1
  rw [List.pairwise_iff_getElem] at hn ⊢
  intro i j hi hj hij
  rw [List.length_set] at hi hj
  have := hn i j hi hj hij
  obtain ⟨_, e'⟩ := List.getElem?_eq_some_iff.1 hfk
  rw [List.getElem_set, List.getElem_set]
  by_cases q1 : k = i
  ·subst q1
   rw [if_pos rfl, if_neg (by omega), ← he, ← e']
   exact this
  ·rw [if_neg q1]
   by_cases q2 : k = j
   ·subst q2
    rw [if_pos rfl, ← he, ← e']
    exact this
   ·rw [if_neg q2]
    exact this
theorem putR_mem {fs : List Rfile} {f x : Rfile} (h : x ∈ putR fs f) : x = f ∨ x ∈ fs := by
 rcases putR_cases fs f with ⟨e, _⟩ | ⟨k, f', e, _⟩
 ·rw [e] at h
  rcases List.mem_append.1 h with q | q
  ·exact .inr q
  ·exact .inl (List.mem_singleton.1 q)
 ·rw [e] at h
  exact (List.mem_or_eq_of_mem_set h).symm
theorem with_ok (w : World) (d : Rd) (p : Pl) (f : Rfile) (h : Rf w d p) (hf : RfOk f) (hn : p.nf < 1099511627776) :
  Calls Tryz.prog 65 #[rdV d p, .agg (fileV f.nm f.seen f.kept)] w fun e w' => ∃ d', e = .returned (rdV d' p) ∧ Rf w' d' ((p.at_.setSeen f.nm f.seen).setKept f.nm f.kept) ∧ Kp NoB w w' := by
 refine (with_raw w d.fA d.fn d.fc d.fs true p.down d.pA d.pn d.pc p.room p.steps p.crash p.starts f h.files h.fnil (by have := h.nf; omega)).mono ?_
 rintro e w' ⟨A', n', c', rfl, hr, hnil, hle, hk⟩
 refine ⟨{ d with fA := A', fn := n', fc := c', fs := putR d.fs f }, rfl, ?_, hk⟩
 obtain ⟨s1, s2⟩ := sumR_put d.fs h.names f
 exact
  {files := hr, pend := h.pend.keep hk, fnil := hnil, pnil := h.pnil, cok := h.cok, names := putR_names h.names f
   fok := fun x hx => by
    rcases putR_mem hx with rfl | q
    ·exact hf
    ·exact h.fok x q
   seen := by show upd p.seen f.nm f.seen = seenR (putR d.fs f); rw [seenR_put, h.seen]
   kept := by show upd p.kept f.nm f.kept = keptR (putR d.fs f); rw [keptR_put, h.kept]
   sum := by show p.sum - ((p.seen f.nm).length : Int) + f.seen.length = sumR (putR d.fs f); rw [s1, h.sum, h.seen]
   ksum := by show p.ksum - ((p.kept f.nm).length : Int) + f.kept.length = ksumR (putR d.fs f); rw [s2, h.ksum, h.kept]
   nf := by show n' ≤ p.nf + 1; have := h.nf; omega
   room := h.room, steps := h.steps, crash := h.crash, starts := h.starts }
theorem Rf.fn63 {w : World} {d : Rd} {p : Pl} (h : Rf w d p) (hn : p.nf < 1099511627776) : d.fn ≤ 9223372036854775807 := by have := h.nf; omega
theorem seen_ok (w : World) (d : Rd) (p : Pl) (s : ByteArray) (h : Rf w d p) (hn : p.nf < 1099511627776) :
  Calls Tryz.prog 10 #[rdV d p, .string s] w fun e w' => e = .returned (.string (strOf (p.seen s))) ∧ Kp NoB w w' := by
 rw [h.seen]
 exact seen_raw w d.fA d.fn d.fc d.fs true p.down d.pA d.pn d.pc p.room p.steps p.crash p.starts s h.files (h.fn63 hn)
theorem file_ok (w : World) (d : Rd) (p : Pl) (s : ByteArray) (h : Rf w d p) (hn : p.nf < 1099511627776) :
  Calls Tryz.prog 63 #[rdV d p, .string s] w fun e w' => e = .returned (.agg (fileV s (p.seen s) (p.kept s))) ∧ Kp NoB w w' := by
 rw [h.seen, h.kept]
 exact file_raw w d.fA d.fn d.fc d.fs true p.down d.pA d.pn d.pc p.room p.steps p.crash p.starts s h.files (h.fn63 hn)
theorem Rf.look {w : World} {d : Rd} {p : Pl} (h : Rf w d p) (s : ByteArray) : ((p.seen s).length ≤ 1048576 ∧ ∀ y ∈ p.seen s, 0 ≤ y ∧ y < 256) ∧ ((p.kept s).length ≤ 1048576 ∧ ∀ y ∈ p.kept s, 0 ≤ y ∧ y < 256) := by
 rw [h.seen, h.kept]
 unfold seenR keptR
 cases hq : findR d.fs s with
 | none => simp
 | some f =>
  have hf := h.fok f (List.mem_of_find?_eq_some hq)
  exact ⟨⟨hf.sl, hf.srng⟩, hf.kl, hf.krng⟩
theorem fits_okR (w : World) (d : Rd) (p : Pl) (s : ByteArray) (m : Int) (h : Rf w d p) (hn : p.nf < 1099511627776) (hm : 0 ≤ m ∧ m ≤ 9223372036854775807) :
  Calls Tryz.prog 72 #[rdV d p, .string s, .int .i64 m] w fun e w' => e = .returned (.int .i64 (p.fits s m)) ∧ Kp NoB w w' := by
 have e : p.fits s m = fitsR d.fs p.room s m := by unfold Pl.fits fitsR; rw [h.seen, h.sum]
 rw [e]
 exact fits_raw w d.fA d.fn d.fc d.fs true p.down d.pA d.pn d.pc p.room p.steps p.crash p.starts s m h.files (h.fn63 hn) hm (by have := (h.look s).1.1; rw [h.seen] at this; exact this)
end
section
open Go.RowKit
theorem step_okR (w : World) (d : Rd) (p : Pl) (h : Rf w d p) :
  Calls Tryz.prog 71 #[rdV d p] w fun e w' => e = .returned (.tuple #[rdV d p.step, .int .i64 p.stepE]) ∧ Rf w' d p.step ∧ Kp NoB w w' := by
 refine (rstep_ok w d p h).mono ?_
 rintro e w' ⟨rfl, hk⟩
 have hc := h.crash
 refine ⟨rfl, { h.keep hk with steps := ?_, crash := ?_ }, hk⟩
 ·show -9223372036854775808 ≤ wrp (p.steps + 1) ∧ wrp (p.steps + 1) ≤ 9223372036854775807
  unfold wrp
  rw [IntKind.wrap_i64]
  omega
 ·show 0 ≤ (if 0 < p.crash then p.crash - 1 else p.crash) ∧ (if 0 < p.crash then p.crash - 1 else p.crash) ≤ 9223372036854775807
  split <;> omega
theorem wrong_okR (w : World) (d : Rd) (p : Pl) (h : Rf w d p) :
  Calls Tryz.prog 70 #[rdV d p] w fun e w' => e = .returned (.int .i64 p.wrong) ∧ Kp NoB w w' := rwrong_ok w d p h
set_option maxRecDepth 100000 in
set_option maxHeartbeats 800000 in
theorem read_okR (w : World) (d : Rd) (p : Pl) (s : ByteArray) (a n : Int) (h : Rf w d p) (hnf : p.nf < 1099511627776) (ha : -9223372036854775808 ≤ a ∧ a ≤ 9223372036854775807) (hn : -9223372036854775808 ≤ n ∧ n ≤ 9223372036854775807) :
  Calls Tryz.prog 113 #[rdV d p, .string s, .int .i64 a, .int .i64 n] w fun e w' => e = .returned (.tuple #[.string (strOf (p.read s a n)), .int .i64 (p.readE a n)]) ∧ Kp NoB w w' := by
 have H := zh h
 have HNF := zh hnf
 obtain ⟨B, hB⟩ : ∃ B : Array Value, B = #[.bool true, .bool p.down, .slice d.fA d.fn d.fc, .slice d.pA d.pn d.pc, .int .i64 p.room, .int .i64 p.steps, .int .i64 p.crash, .int .i64 p.starts] := ⟨_, rfl⟩
 clear h hnf
 by_cases hd : p.down = true
 ·have hw : Hid (p.wrong = 7) := zh (by unfold Pl.wrong; rw [hd]; rfl)
  have hR : Hid (strOf (p.read s a n) = ⟨#[]⟩ ∧ p.readE a n = 7) := zh (by
   have e : p.readE a n = 7 := by unfold Pl.readE; rw [if_pos hd]
   refine ⟨?_, e⟩
   unfold Pl.read
   rw [e, if_neg (by omega)]
   rfl)
  unfold rdV
  clear hB hd
  go_enter Tryz.func113, Tryz.ntmps113
  go_wp2_with fail
  refine (show Calls _ _ #[rdV d p] _ _ from (rwrong_ok _ d p (H.out.keep ((Kp.refl NoB w).alloc _)))).mono ?_
  rintro e w2 ⟨rfl, hk⟩
  rw [hw.out]
  have HK := zh hk
  clear hk
  go_wp2_with fail
  go_ret2
  exact ⟨by rw [hR.out.1, hR.out.2]; rfl, ((Kp.refl NoB w).alloc _).trans HK.out (fun _ _ q => q)⟩
 have hd' : p.down = false := by simpa using hd
 have hw : Hid (p.wrong = 0) := zh (by unfold Pl.wrong; rw [hd']; rfl)
 have HD := zh hd'
 by_cases hneg : a < 0 ∨ n < 0
 ·have hR : Hid (strOf (p.read s a n) = ⟨#[]⟩ ∧ p.readE a n = 2) := zh (by
   have e : p.readE a n = 2 := by unfold Pl.readE; rw [if_neg hd, if_pos hneg]
   refine ⟨?_, e⟩
   unfold Pl.read
   rw [e, if_neg (by omega)]
   rfl)
  clear hB hd hd'
  rcases (show a < 0 ∨ (¬ a < 0 ∧ n < 0) by omega) with q | ⟨q1, q⟩
  all_goals
   unfold rdV
   go_enter Tryz.func113, Tryz.ntmps113
   go_wp2_with fail
   refine (show Calls _ _ #[rdV d p] _ _ from (rwrong_ok _ d p (H.out.keep ((Kp.refl NoB w).alloc _)))).mono ?_
   rintro e w2 ⟨rfl, hk⟩
   rw [hw.out]
   have HK := zh hk
   clear hk
   go_wp2_with fail
   go_ret2
   exact ⟨by rw [hR.out.1, hR.out.2]; rfl, ((Kp.refl NoB w).alloc _).trans HK.out (fun _ _ q => q)⟩
 ·obtain ⟨i, hi⟩ : ∃ i : Nat, a = i := ⟨a.toNat, by omega⟩
  obtain ⟨m, hm⟩ : ∃ m : Nat, n = m := ⟨n.toNat, by omega⟩
  subst hi hm
  obtain ⟨l, hl⟩ : ∃ l, p.seen s = l := ⟨_, rfl⟩
  have HL := zh hl
  have hll : l.length ≤ 1048576 := by rw [← hl]; exact (H.out.look s).1.1
  have e0 : p.readE i m = 0 := by unfold Pl.readE; rw [if_neg hd, if_neg hneg]
  have HE := zh e0
  have hP : Hid (p.read s i m = (l.drop i).take m) := zh (by unfold Pl.read; rw [e0, if_pos rfl, hl]; rfl)
  have hs := strOf_size l
  have g1 : ¬ (i : Int) < 0 := by omega
  have g2 : ¬ (m : Int) < 0 := by omega
  clear hB hd hd' hneg hl e0
  have walk : ∀ (X : World → Prop), True := fun _ => trivial
  clear walk
  unfold rdV
  go_enter Tryz.func113, Tryz.ntmps113
  go_wp2_with fail
  refine (show Calls _ _ #[rdV d p] _ _ from (rwrong_ok _ d p (H.out.keep ((Kp.refl NoB w).alloc _)))).mono ?_
  rintro e w2 ⟨rfl, hk⟩
  rw [hw.out]
  have HK := zh (((Kp.refl NoB w).alloc _).trans hk (fun _ _ q => q))
  have b2 := (Blk.new w 29 #[.bool true, .bool p.down, .slice d.fA d.fn d.fc, .slice d.pA d.pn d.pc, .int .i64 p.room, .int .i64 p.steps, .int .i64 p.crash, .int .i64 p.starts]).keep hk (fun q => q)
  obtain ⟨c0, c1, c2, c3, c4, c5, c6, c7⟩ := b2.c8
  clear hk b2
  go_wp2_with fail
  refine (show Calls _ _ #[rdV d p, .string s] _ _ from (seen_ok _ d p s (H.out.keep HK.out) HNF.out)).mono ?_
  rintro e w3 ⟨rfl, hk⟩
  rw [HL.out]
  have HK3 := zh (HK.out.trans hk (fun _ _ q => q))
  clear hk c0 c1 c2 c3 c4 c5 c6 c7
  by_cases h1 : l.length ≤ i
  ·have h1' : (l.length : Int) ≤ (i : Int) := by omega
   go_wp2_with fail
   go_ret2
   exact ⟨by rw [hP.out, HE.out, List.drop_eq_nil_of_le h1, List.take_nil]; rfl, HK3.out⟩
  ·have h1' : ¬ (l.length : Int) ≤ (i : Int) := by omega
   have h2 : i ≤ l.length := by omega
   have x1 : ((strOf l).extract i l.length).size = l.length - i := by rw [ByteArray.size_extract]; omega
   have y1 : (strOf l).extract i l.length = strOf (l.drop i) := by rw [strOf_sub, List.take_of_length_le (by simp)]
   rw [y1] at x1
   by_cases h3 : m < l.length - i
   ·have h3' : (m : Int) < ((l.length - i : Nat) : Int) := by omega
    have h4 : m ≤ l.length - i := by omega
    have hq : Hid (strOf ((l.drop i).take m) = (strOf (l.drop i)).extract 0 m) := zh (by rw [strOf_sub, List.drop_zero, Nat.sub_zero])
    go_wp2_with fail
    go_ret2
    exact ⟨by rw [hP.out, HE.out, hq.out]; rfl, HK3.out⟩
   ·have h3' : ¬ (m : Int) < ((l.length - i : Nat) : Int) := by omega
    go_wp2_with fail
    go_ret2
    exact ⟨by rw [hP.out, HE.out, List.take_of_length_le (by simp; omega)]; rfl, HK3.out⟩
end
section
open Go.RowKit
set_option maxRecDepth 100000 in
set_option maxHeartbeats 800000 in
theorem newR_ok (w : World) (r : Int) (hr : -9223372036854775808 ≤ r ∧ r ≤ 9223372036854775807) :
  Calls Tryz.prog 6 #[.int .i64 r] w fun e w' => ∃ d, e = .returned (rdV d (Pl.new r)) ∧ Rf w' d (Pl.new r) ∧ Kp NoB w w' := by
 have key : Hid (∀ w' : World, Rf w' ⟨none, 0, 0, [], none, 0, 0⟩ (Pl.new r)) := zh (fun w' =>
  {files := ⟨rfl, by simp, fun h => absurd h (Nat.lt_irrefl 0)⟩, pend := ⟨rfl, by simp [Pl.new], fun h => absurd h (Nat.lt_irrefl 0)⟩, fnil := fun _ => ⟨rfl, rfl⟩, pnil := fun _ => ⟨rfl, rfl⟩
   fok := by simp, cok := by simp [Pl.new], names := List.Pairwise.nil, seen := rfl, kept := rfl, sum := rfl, ksum := rfl, nf := Nat.le_refl _
   room := by show 0 ≤ max 0 r ∧ max 0 r ≤ 9223372036854775807; omega
   steps := by simp [Pl.new], crash := by simp [Pl.new], starts := by simp [Pl.new] })
 by_cases h : r ≤ 0
 ·have e : Hid (max 0 r = 0) := zh (by omega)
  go_enter Tryz.func6, Tryz.ntmps6
  go_wp2_with fail
  refine bodyPost_ret (results_cell_row rfl _ _ _ _ _ _ _ rfl (Blk.new _ _ _) Tryz.underlying29 rfl (by exact infoRd)) rfl ⟨⟨none, 0, 0, [], none, 0, 0⟩, ?_, key.out _, (Kp.refl NoB w).alloc _⟩
  unfold rdV Pl.new
  rw [e.out]
 ·have e : Hid (max 0 r = r) := zh (by omega)
  have h' : 0 ≤ r := by omega
  go_enter Tryz.func6, Tryz.ntmps6
  go_wp2_with fail
  refine bodyPost_ret (results_cell_row rfl _ _ _ _ _ _ _ rfl (Blk.new _ _ _) Tryz.underlying29 rfl (by exact infoRd)) rfl ⟨⟨none, 0, 0, [], none, 0, 0⟩, ?_, key.out _, (Kp.refl NoB w).alloc _⟩
  unfold rdV Pl.new
  rw [e.out]
end
end Go.Proofs.YtegcbdfilkecpaaGreat
