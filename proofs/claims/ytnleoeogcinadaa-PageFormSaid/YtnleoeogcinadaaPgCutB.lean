/- The program's Cut of a page that is bad, or at a place that is none; no condition. -/
import Derived.Test.YtnleoeogcinadaaPgPlain
import Derived.Test.YtnleoeogcinadaaOwnB
import Derived.Test.YtnleoeogcinadaaPgEq
namespace Go.Proofs.Ytnleoeogcinadaa
open Go.RowKit
attribute [local go_sem ↓] load26 store26 alloc26 build26 slice26lo load62 store62

def cutF (l : List Int) (n : Int) : Array Value × Array Value × Int :=
  match readF l with
  | none => (zero256, zero256, 8)
  | some (kind, link, cs) => if n < 0 ∨ (cs.length : Int) < n then (zero256, zero256, 4) else (bytesV (layI kind 0 (cs.take n.toNat)), bytesV (layI kind link (cs.drop n.toNat)), 0)
theorem ret_cct {P : Program} {fn : Func} {p q u : Tmp} {ty : TypeId} (h : fn.results = #[.cell p ty, .cell q ty, .tmp u]) (tmps : Array Value) (w : World) (g g' : Nat) (t t' : TypeId) (cs cs' : Array Value) (d : TypeDesc)
    (hp : tmps.getD p undef = .pointer (some ⟨g, 0, none⟩)) (hq : tmps.getD q undef = .pointer (some ⟨g', 0, none⟩)) (hg : Blk w g t cs) (hg' : Blk w g' t' cs')
    (hu : P.underlying ty = some d) (hd : (match d with | .struct _ | .array _ _ => true | _ => false) = true) (hi : (P.info? ty).map (·.size) = some cs.size) (hi' : (P.info? ty).map (·.size) = some cs'.size) (x : Value) (hx : tmps.getD u undef = x) :
    (results fn tmps).run P w = .ok (.tuple #[.agg cs, .agg cs', x]) w := by
  have hp' : tmps[p]?.getD undef = .pointer (some ⟨g, 0, none⟩) := by simpa using hp
  have hq' : tmps[q]?.getD undef = .pointer (some ⟨g', 0, none⟩) := by simpa using hq
  have hx' : tmps[u]?.getD undef = x := by simpa using hx
  simp [results, h, hp', hq', hx', asAddr, run_loadVar_row w g t ty cs (0, 0) d hg hu hd hi, run_loadVar_row w g' t' ty cs' (0, 0) d hg' hu hd hi']
/-- two result pages of zeros -/
structure Z2 (g : Nat) (W : World) : Prop where
  b4 : Blk W g 26 zero256
  b5 : Blk W (g + 1) 26 zero256
theorem Z2.keep {g : Nat} {W W' : World} (h : Z2 g W) (k : Kp NoB W W') : Z2 g W' := ⟨h.b4.keep k (fun q => q), h.b5.keep k (fun q => q)⟩
theorem zfar {g : Nat} {W : World} (h : Z2 g W) (t : TypeId) (cs ds : Array Value) : Z2 g ((W.alloc (.cells cs t)).setCells W.heap.size 0 ds.toList) :=
  ⟨(h.b4.alloc _).farCells (by have := h.b4.lt; omega) _ _ _, (h.b5.alloc _).farCells (by have := h.b5.lt; omega) _ _ _⟩
theorem Z2.facts {g : Nat} {W : World} (h : Z2 g W) : W.there g 0 256 ∧ W.there (g + 1) 0 256 ∧ (W.setCells g 0 zero256.toList).there (g + 1) 0 256 :=
  ⟨h.b4.thereAll 256 zero256_size, h.b5.thereAll 256 zero256_size, (h.b5.farCells (by omega) _ _ _).thereAll 256 zero256_size⟩
theorem told_fit (w : World) (kind link : Int) (A : Option Addr) (n cap : Nat) (xs : List ByteArray) (M : List Value) (hM : (layI kind link xs).map (Value.int .u8) = M) (hr : 0 ≤ roomI xs) (hn : n ≤ 4000) (h60 : ∀ c ∈ xs, 1 ≤ c.size ∧ c.size ≤ 60) (hS : Sl w A n xs) :
    Calls Try.prog 31 #[.agg #[.int .u8 kind, .int .u32 link, .slice A n cap]] w fun e w' => e = .returned (.tuple #[.agg M.toArray, .int .i64 0]) ∧ Kp NoB w w' := by
  refine (told_ok w kind link A n cap xs hn h60 hS).mono ?_
  intro e w' hq
  rw [show toldR kind link xs = (bytesV (layI kind link xs), 0) from if_neg (by omega)] at hq
  subst hM
  exact hq
/-- a body in block g7, two pages of zeros -/
structure CW (w : World) (g7 : Nat) (kind link : Int) (A : Option Addr) (n cap : Nat) (cs : List ByteArray) (W : World) : Prop where
  kp : Kp NoB w W
  z : Z2 (w.heap.size + 1) W
  b7 : Blk W g7 62 (body3 kind link A n cap)
  sl : Sl W A n cs
theorem CW.keep {w W W' : World} {g7 : Nat} {kind link : Int} {A : Option Addr} {n cap : Nat} {cs : List ByteArray} (h : CW w g7 kind link A n cap cs W) (k : Kp NoB W W') : CW w g7 kind link A n cap cs W' :=
  ⟨h.kp.trans k (fun _ _ q => q), h.z.keep k, h.b7.keep k (fun q => q), h.sl.keep k⟩
def CutPost (w : World) (r : Array Value × Array Value × Int) (e : Ending) (w' : World) : Prop := e = .returned (.tuple #[.agg r.1, .agg r.2.1, .int .i64 r.2.2]) ∧ Kp NoB w w'
set_option maxRecDepth 100000 in
set_option maxHeartbeats 4000000 in
theorem Cut_none (w : World) (l : List Int) (hB : Bytes l) (n : Int) (hr : readF l = none) : Calls Try.prog 20 #[.agg (bytesV l), .int .i64 n] w (CutPost w (cutF l n)) := by
  have HB := Lib.hid hB
  have hb0 := (Blk.new w 26 (bytesV l))
  have HB0 := Lib.hid hb0
  have hb1 := (hb0.alloc (.cells zero256 26)).alloc (.cells zero256 26)
  have t1 := hb1.thereAll 256 (by rw [bytesV_size]; exact hB.len)
  have r1 := hb1.readAll 256 (by rw [bytesV_size]; exact hB.len)
  clear hB hb0 hb1
  have HR := Lib.hid hr
  have on3 : ones #[.int .u8 0, .int .u32 0, .slice none 0 0] := by unfold ones; simp [Value.oneCell']
  have zsz := zero256_size
  have zon := zero256_one
  have hq : cutF l n = (zero256, zero256, 8) := by unfold cutF; rw [hr]
  rw [hq]
  clear hq hr
  have HZ := Lib.hid (show Z2 (w.heap.size + 1) (((w.alloc (.cells (bytesV l) 26)).alloc (.cells zero256 26)).alloc (.cells zero256 26)) from ⟨(Blk.newAt _ _ _ _ (by simp)).alloc _, Blk.newAt _ _ _ _ (by simp)⟩)
  go_enter Try.func20, Try.ntmps20
  go_wp2_with (go_at_call 32; go_must (refine (read_ok _ l HB.out).mono ?_); rintro e w2 hq; rw [HR.out] at hq; obtain ⟨hk2, rfl⟩ := hq.none; clear hq; have HK := Lib.hid hk2; have th := (Blk.new w2 62 #[.int .u8 0, .int .u32 0, .slice none 0 0]).thereAll 3 rfl; have hz := zfar (HZ.out.keep hk2) 62 #[.int .u8 0, .int .u32 0, .slice none 0 0] #[.int .u8 0, .int .u32 0, .slice none 0 0]; have HZ2 := Lib.hid hz; obtain ⟨t4, t5, t5'⟩ := hz.facts; clear hk2 hz)
  refine bodyPost_ret (ret_cct rfl _ _ _ _ _ _ _ _ _ rfl rfl ((HZ2.out.b4.whole zero256 rfl).farCells (by omega) _ _ _) ((HZ2.out.b5.farCells (by omega) _ _ _).whole zero256 rfl) Try.underlying26 rfl (by rw [zero256_size]; exact info26) (by rw [zero256_size]; exact info26) _ rfl) rfl ?_
  exact ⟨rfl, Kp.setCells (.inl (by omega)) _ _ _ (Kp.setCells (.inl (by omega)) _ _ _ (Kp.setCells (.inl (by have := HK.out.size; simp at this; omega)) _ _ _ (((((Kp.refl NoB w).alloc _).alloc _).alloc _).trans HK.out (fun _ _ q => q) |>.alloc _)))⟩
set_option maxRecDepth 100000 in
set_option maxHeartbeats 4000000 in
theorem Cut_idx (w : World) (l : List Int) (hB : Bytes l) (n : Int) {kind link : Int} {cs : List ByteArray} (hr : readF l = some (kind, link, cs)) (hbad : n < 0 ∨ (cs.length : Int) < n) : Calls Try.prog 20 #[.agg (bytesV l), .int .i64 n] w (CutPost w (cutF l n)) := by
  have HB := Lib.hid hB
  have hb0 := (Blk.new w 26 (bytesV l))
  have HB0 := Lib.hid hb0
  have hb1 := (hb0.alloc (.cells zero256 26)).alloc (.cells zero256 26)
  have t1 := hb1.thereAll 256 (by rw [bytesV_size]; exact hB.len)
  have r1 := hb1.readAll 256 (by rw [bytesV_size]; exact hB.len)
  clear hB hb0 hb1
  have HR := Lib.hid hr
  have on3 : ones #[.int .u8 0, .int .u32 0, .slice none 0 0] := by unfold ones; simp [Value.oneCell']
  have zsz := zero256_size
  have zon := zero256_one
  have HZ := Lib.hid (show Z2 (w.heap.size + 1) (((w.alloc (.cells (bytesV l) 26)).alloc (.cells zero256 26)).alloc (.cells zero256 26)) from ⟨(Blk.newAt _ _ _ _ (by simp)).alloc _, Blk.newAt _ _ _ _ (by simp)⟩)
  have hq : cutF l n = (zero256, zero256, 4) := by unfold cutF; rw [hr]; exact if_pos hbad
  rw [hq]
  clear hq hr
  rcases (show n < 0 ∨ (0 ≤ n ∧ (cs.length : Int) < n) by omega) with q | ⟨q0, q⟩
  all_goals
    clear hbad
    go_enter Try.func20, Try.ntmps20
    go_wp2_with (go_at_call 32; go_must (refine (read_ok _ l HB.out).mono ?_); rintro e w2 hq; rw [HR.out] at hq; obtain ⟨hk2, A, cap, rfl, ho, hs⟩ := hq.some; have hform := own_form ho; have hcap := own_cap ho; clear hq ho; have HK := Lib.hid hk2; have HFORM := Lib.hid hform; have hb := (Blk.new w2 62 #[.int .u8 0, .int .u32 0, .slice none 0 0]); have th := hb.thereAll 3 rfl; have hb3 := hb.whole (body3 kind link A cs.length cap) rfl; have HB3 := Lib.hid hb3; have HS := Lib.hid (hs.keep (Kp.setCells (S := NoB) (g := w2.heap.size) (.inl (Nat.le_refl _)) (body3 kind link A cs.length cap).toList 0 _ ((Kp.refl NoB w2).alloc (.cells #[.int .u8 0, .int .u32 0, .slice none 0 0] 62)))); have c0 := hb3.cell 0; have c1 := hb3.cell 1; have c2 := hb3.cell 2; have th3 := hb3.thereAll 3 rfl; have rd3 := hb3.readAll 3 rfl; have on4 : ones (body3 kind link A cs.length cap) := (by unfold ones body3; simp [Value.oneCell']); have hz := zfar (HZ.out.keep hk2) 62 #[.int .u8 0, .int .u32 0, .slice none 0 0] (body3 kind link A cs.length cap); have HZ2 := Lib.hid hz; obtain ⟨t4, t5, t5'⟩ := hz.facts; unfold body3 at th3 rd3 on4 c0 c1 c2 t4 t5 t5'; clear hk2 hs hb hb3 hform hz)
    refine bodyPost_ret (ret_cct rfl _ _ _ _ _ _ _ _ _ rfl rfl ((HZ2.out.b4.whole zero256 rfl).farCells (by omega) _ _ _) ((HZ2.out.b5.farCells (by omega) _ _ _).whole zero256 rfl) Try.underlying26 rfl (by rw [zero256_size]; exact info26) (by rw [zero256_size]; exact info26) _ rfl) rfl ?_
    exact ⟨rfl, Kp.setCells (.inl (by omega)) _ _ _ (Kp.setCells (.inl (by omega)) _ _ _ (Kp.setCells (.inl (by have := HK.out.size; simp at this; omega)) _ _ _ (((((Kp.refl NoB w).alloc _).alloc _).alloc _).trans HK.out (fun _ _ q => q) |>.alloc _)))⟩
end Go.Proofs.Ytnleoeogcinadaa
