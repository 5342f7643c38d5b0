/- The stand-in disk: a file's bytes cut or made longer; condition: at most 1048576 bytes. -/
import Derived.Test.YtdgjglocgdccbaaDkFits
import Derived.Test.YtdgjglocgdccbaaDkClone
import Derived.Deep.AppendLies
namespace Go.Proofs.Ytdgjglocgdccbaa
open Go.RowKit

theorem step_append_zeros {P : Program} {ops : Array Oper} {o : Oper} {a : Act} {w : World} {K : Act → World → Prop} {Q : Exit → Act → World → Prop} {E : Prop} (hgd : o.guard = none) (s x : Operand) (t tn : TypeId)
    (ho : o.op = .call { callee := .builtin .append, args := #[s, x], argTypes := #[t, tn] })
    (base : Nat) (e : TypeId) (i : TypeInfo) (z u : Value) (kq kn : IntKind) (ht : P.underlying t = some (.slice e)) (htn : P.underlying tn = some (.int kn)) (hi : P.info? e = some i) (hz : i.zero = some z)
    (hsize : i.size = 1) (hby : i.bytes = 1) (hzs : z.cells = #[u]) (hu : u.oneCell' = true)
    (v : Value) (n : Nat) (xs : List Value) (hs : a.eval s = v) (hown : w.ownsRow base e 1 v n xs) (k : Nat) (hx : a.eval x = .int kq k) (hk : 0 < k) (hb : n + k ≤ 1099511627776) (hbase : base ≤ w.heap.size)
    (h : ∀ v' w', w'.ownsRow base e 1 v' (n + k) (xs ++ List.replicate k u) → w.grownBy w' v.ownBlock → (∀ b, v'.ownBlock = some b → v.ownBlock = some b ∨ w.heap.size ≤ b) → K (a.put o.dst v') w') :
    if Region.wanted o (yielded ops a.tmps) = true then Oper.wp P o a w K Q else E := by
  have hw : Region.wanted o (yielded ops a.tmps) = true := by simp [Region.wanted, hgd]
  rw [if_pos hw]
  obtain ⟨v', w', hr, h1, h2, h3⟩ := append_zeros_own (P := P) w base t tn o.type e i z u kq kn ht htn hi hz hsize hby hzs hu v n xs hown k hk hb hbase
  exact Lib.wp_append_run w s x t tn ho _ _ hs hx v' w' hr (h v' w' h1 h2 h3)
theorem Bq.take {w : World} {n0 : Nat} {A : Option Addr} {m cap : Nat} {l : List Int} (h : Bq w n0 (.slice A m cap) l) (n : Nat) (hn : n ≤ l.length) : Bq w n0 (.slice A n cap) (l.take n) := by
  refine ⟨?_, fun x hx => h.rng x (List.mem_of_mem_take hx)⟩
  have hl : (l.take n).length = n := by simp; omega
  rw [hl]
  refine ⟨by simp; omega, ?_⟩
  rcases h.own.2 with ⟨e, h0⟩ | ⟨g, cap', cur, hv, hb, hh, h1, h2, h3, h4⟩
  · simp only [Value.slice.injEq] at e
    obtain ⟨rfl, _, rfl⟩ := e
    have : n = 0 := by omega
    subst this
    exact .inl ⟨rfl, rfl⟩
  · simp only [Value.slice.injEq] at hv
    obtain ⟨rfl, _, rfl⟩ := hv
    refine .inr ⟨g, cap, cur, rfl, hb, hh, by omega, h2, h3, ?_⟩
    rw [Nat.mul_one] at h4 ⊢
    rw [List.map_take, ← h4, List.take_take, Nat.min_eq_left hn]
theorem Bq.mono {w : World} {n0 n1 : Nat} {v : Value} {l : List Int} (h : Bq w n0 v l) (hn : n1 ≤ n0) : Bq w n1 v l := ⟨h.own.mono hn, h.rng⟩
theorem Bq.drew {w : World} {n0 : Nat} {v : Value} {l : List Int} (h : Bq w n0 v l) : Bq w.drew n0 v l := ⟨h.own, h.rng⟩
def GrowPost (w : World) (n0 fb o n : Nat) (cs : Array Value) (l : List Int) (w' : World) : Prop :=
  ∃ A cap, Blk w' fb 75 (cs.setIfInBounds o (.slice A n cap)) ∧ Bq w' n0 (.slice A n cap) (sizedF l n) ∧ Kp (OnB fb) w w'
set_option maxRecDepth 100000 in
set_option maxHeartbeats 1600000 in
theorem grow_ok (w : World) (n0 fb o : Nat) (cs : Array Value) (A : Option Addr) (m cap : Nat) (l : List Int) (n : Nat) (hm : l.length = m) (hl : m ≤ 1048576) (hn : n ≤ 1048576) (hn0 : n0 ≤ w.heap.size)
    (hb : Blk w fb 75 cs) (hc : cs[o]? = some (.slice A m cap)) (hq : Bq w n0 (.slice A m cap) l) :
    Calls Try.prog 51 #[.pointer (some ⟨fb, o, none⟩), .int .i64 n] w fun e w' => e = .returned (.tuple #[]) ∧ GrowPost w n0 fb o n cs l w' := by
  have HB := Lib.hid hb
  have HQ := Lib.hid hq
  have HM := Lib.hid hm
  have HN0 := Lib.hid hn0
  have c0 : w.cell? ⟨fb, o, none⟩ = some (.slice A m cap) := by rw [hb.cell]; exact hc
  have z0 := hb.frozen o
  have hmc : m ≤ cap := own_cap (show w.ownsRow n0 5 1 (.slice A m cap) m (l.map (Value.int .u8)) by have := hq.own; rwa [hm] at this)
  clear hb hc hq hm hn0
  by_cases hle : (n : Int) ≤ m
  · have hnc : n ≤ cap := by omega
    have hnl : n ≤ m := by omega
    have HNL := Lib.hid hnl
    have HLN : Hid ((l.take n).length = n) := Lib.hid (by rw [List.length_take, HM.out]; exact Nat.min_eq_left hnl)
    go_enter Try.func51, Try.ntmps51
    go_wp2_with (go_at_call 36; go_must (refine (clone_ok w n0 A n cap (l.take n) (by rw [List.length_take, HM.out]; exact (Nat.min_eq_left HNL.out).symm) (by simp; omega) (HQ.out.take n (by rw [HM.out]; exact HNL.out))).mono ?_); rintro e w2 ⟨B, c2', rfl, hq2, hk2⟩; rw [HLN.out] at hq2 ⊢; have HQ2 := Lib.hid hq2; have HK2 := Lib.hid hk2; have z2 := (HB.out.keep hk2 (fun q => q)).frozen o; have c2 : w2.cell? ⟨fb, o, none⟩ = some (.slice A m cap) := (by rw [hk2.cell HB.out.lt (fun q => q)]; exact c0); clear hq2 hk2)
    refine bodyPost_ret (results_none rfl _ _ _) rfl ⟨rfl, B, c2', ?_, ?_, ?_⟩
    · exact (HB.out.keep HK2.out (fun q => q)).set_ o (.slice B n c2')
    · have hsz : sizedF l n = l.take n := by unfold sizedF; rw [if_pos (by rw [HM.out]; exact HNL.out)]
      rw [hsz]
      exact (HQ2.out.mono HN0.out).keep ((Kp.refl (OnB fb) w2).setAt rfl o (.slice B n c2')) (fun g cs' hc q => onb_cells (HB.out.keep HK2.out (fun q => q)) hc (by decide) q)
    · exact (HK2.out.mono (S' := OnB fb) (fun _ _ q => q.elim)).setAt rfl _ _
  · obtain ⟨k, hk⟩ : ∃ k, n - m = k := ⟨_, rfl⟩
    obtain ⟨N, hN⟩ : ∃ N : Int, (n : Int) = N := ⟨_, rfl⟩
    obtain ⟨j0, hj0, hy0, hy1, hy2⟩ := info_parts infoU8'
    have HJ0 := Lib.hid hj0
    have HY0 := Lib.hid hy0
    have HY1 := Lib.hid hy1
    have HY2 := Lib.hid hy2
    have HKN := Lib.hid (show n = m + k ∧ 0 < k ∧ m + k ≤ 1099511627776 by omega)
    have HLL := Lib.hid (show l.length ≤ 1099511627776 by rw [HM.out]; omega)
    have hw : IntKind.i64.wrap (N - (m : Int)) = (k : Int) := by rw [IntKind.wrap_i64]; omega
    have g1 : ¬ N ≤ (m : Int) := by omega
    rw [hN]
    have HNN := Lib.hid hN
    clear hle hk hN hl hn hj0 hy0 hy1 hy2
    go_enter Try.func51, Try.ntmps51
    go_wp2_with fail
    go_region_law (first
      | (refine step_append_zeros (by rfl) (.tmp 26) (.tmp 33) 66 3 (by rfl) w.heap.size 5 j0 (.int .u8 0) (.int .u8 0) .i64 .i64 Try.underlying66 Try.underlying3 HJ0.out HY0.out HY1.out HY2.out rfl rfl (.slice B m c2') m (l.map (Value.int .u8)) (by rfl) HO2.out k (by rfl) HKN.out.2.1 HKN.out.2.2 HK2.out.size ?_; intro v3 w3 hown3 hgrow3 _; obtain ⟨C, c3, rfl⟩ := own_slice hown3; have HO3 := Lib.hid hown3; have hk3 := HK2.out.own (v := .slice B m c2') hgrow3 rfl HO2.out; have HK3 := Lib.hid hk3; have z3 := (HB.out.keep hk3 (fun q => q)).frozen o; have c3' : w3.cell? ⟨fb, o, none⟩ = some (.slice A m cap) := (by rw [hk3.cell HB.out.lt (fun q => q)]; exact c0); clear hown3 hgrow3 hk3)
      | (go_simp; go_at_call 36; go_must (refine (clone_ok w.drew n0 A m cap l HM.out.symm HLL.out HQ.out.drew).mono ?_); rintro e w2 ⟨B, c2', rfl, hq2, hk2⟩; rw [HM.out] at hq2 ⊢; have HO2 := Lib.hid (show w2.ownsRow w.heap.size 5 1 (.slice B m c2') m (l.map (Value.int .u8)) by have := hq2.own; rwa [HM.out] at this); have HK2 := Lib.hid ((Kp.refl NoB w).drew.trans hk2 (fun _ _ q => q)); have z2 := (HB.out.keep HK2.out (fun q => q)).frozen o; have c2 : w2.cell? ⟨fb, o, none⟩ = some (.slice A m cap) := (by rw [HK2.out.cell HB.out.lt (fun q => q)]; exact c0); clear hq2 hk2)
      | go_simp)
    all_goals
      obtain ⟨rfl, hk0, _⟩ := HKN.out
      have e1 : sizedF l (m + k) = l ++ List.replicate k 0 := by unfold sizedF; rw [if_neg (by rw [HM.out]; omega), HM.out, Nat.add_sub_cancel_left]
      have hq3 : Bq w3 n0 (.slice C (m + k) c3) (sizedF l (m + k)) := ⟨by rw [sizedF_len, e1, List.map_append, List.map_replicate]; exact HO3.out.mono HN0.out, sizedF_rng HQ.out.rng _⟩
      refine bodyPost_end (results_none rfl _ _ _) rfl ⟨rfl, C, c3, ?_, ?_, ?_⟩
      · exact (HB.out.keep HK3.out (fun q => q)).set_ o (.slice C (m + k) c3)
      · exact hq3.keep ((Kp.refl (OnB fb) w3).setAt rfl o (.slice C (m + k) c3)) (fun g cs' hc q => onb_cells (HB.out.keep HK3.out (fun q => q)) hc (by decide) q)
      · exact (HK3.out.mono (S' := OnB fb) (fun _ _ q => q.elim)).setAt rfl _ _
end Go.Proofs.Ytdgjglocgdccbaa
