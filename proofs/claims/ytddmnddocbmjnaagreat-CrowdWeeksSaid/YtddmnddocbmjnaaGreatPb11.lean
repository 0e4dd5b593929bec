/- Part 11 of the proof: CrowdWeeks: whatever plain data comes in, the call returns true and leaves its arguments as they were. No condition. -/
import Derived.Test.YtddmnddocbmjnaaGreatPb10
import Derived.Below
import Derived.ProofKit
import Derived.ChangeSame
import Derived.Handed
import Derived.Test.YtddmnddocbmjnaaGreatChecked
import Derived.KernelRfl
set_option linter.all false
set_option linter.unusedVariables false
set_option linter.unusedSectionVars false
set_option linter.unusedSimpArgs false
namespace Go.Proofs.YtddmnddocbmjnaaGreat.Dv
open Go.RowKit Go.ChangeMaps
theorem inj_of_nodup {α β : Type} {f : α → β} : ∀ {l : List α}, (l.map f).Nodup → ∀ {x y : α}, x ∈ l → y ∈ l → f x = f y → x = y
  | [], _, x, y, hx, _, _ => by simp at hx
  | a :: l, hn, x, y, hx, hy, he => by
    rw [List.map_cons, List.nodup_cons] at hn
    rw [List.mem_cons] at hx hy
    rcases hx with rfl | hx
    · rcases hy with rfl | hy
      · rfl
      · exact absurd (he ▸ List.mem_map_of_mem hy) hn.1
    · rcases hy with rfl | hy
      · exact absurd (he ▸ List.mem_map_of_mem hx) hn.1
      · exact inj_of_nodup hn.2 hx hy he
theorem over_rep {os ks : List Int} : ∀ {ks' : List Int} {w w2 : World} {h h2 : PT AObj} {ρ ρ2 : Rho} {ms : List MapEntry}, MapR w h ρ (ks'.filterMap fun k => match os[k.toNat]? with
  | some o => if ks.contains o then some (i64 k, DV.p (i64 o)) else none
  | none => none) ms → MapR w2 h2 ρ2 (ks'.filterMap fun k => match os[k.toNat]? with
  | some o => if ks.contains o then some (i64 k, DV.p (i64 o)) else none
  | none => none) ms
  | [], w, w2, h, h2, ρ, ρ2, ms, hm => by cases hm; exact .nil
  | k :: ks', w, w2, h, h2, ρ, ρ2, ms, hm => by
    rw [List.filterMap_cons] at hm ⊢
    cases hg : os[k.toNat]? with
    | none => simp only [hg] at hm ⊢; exact over_rep hm
    | some o =>
      simp only [hg] at hm ⊢
      by_cases hc : ks.contains o = true
      · simp only [hc, if_true] at hm ⊢
        cases hm with
        | cons a b c =>
          simp only [DRep, PRep, i64] at a b
          exact .cons (by simp only [DRep, PRep, i64]; exact a) (by simp only [DRep, PRep, i64]; exact b) (over_rep c)
      · simp only [hc] at hm ⊢
        exact over_rep hm
def leftN (en : Array MapEntry) (vis : List MapEntry) : Nat := (leftOf en (vis.map (·.born)).toArray).size
set_option maxHeartbeats 1000000 in
theorem over_in {cs : List PDV} {os : List Int} (hos : optL overP cs = some os) (zs : List (List Int)) (hn : zs.flatten.Nodup) (hin : ∀ k ∈ zs.flatten, 0 ≤ k ∧ k < os.length) (hl : zs.length ≤ 4096) (hl2 : ∀ z ∈ zs, z.length ≤ 4096) {ρ : Rho} {w : World} {vs : List Value} (inv : Inv ρ w .leaf) (hr : DRT w .leaf ρ [.p (.lst cs), .p (.agg [.lst (zs.map L)])] vs) (hal : ∀ k, ¬ ρ.al k) :
    Calls Tryz.prog 226 vs.toArray w fun e w' => ∃ v ρ' h' i, e = .returned v ∧ Stp ρ w .leaf ρ' w' h' ∧ Inv ρ' w' h' ∧ h'.get i = some (.map (overL os zs.flatten)) ∧ DR w' h' ρ' (.mm i) v := by
  refine calls_of_wp Tryz.func226 rfl ?_
  have sr0 : SR 52 ρ w ⟨argsT 0 [.p (.lst cs), .p (.agg [.lst (zs.map L)])] .leaf, .leaf, 0⟩ { tmps := vs.toArray ++ Array.replicate (52 - vs.toArray.size) undef, defers := [] } := ⟨inv, args_tr hr _, by have := hr.len; simp at this ⊢; omega, rfl, fun k hk => (hal k hk).elim⟩
  refine wp_seqK codeOK mixed ?_ ?_ (fun x r h => h.1) (pre_X cs zs hn hl hl2) sr0 ?_
  · kernel_rfl
  · kernel_rfl
  intro r1 a1 w1 hA1 hx1
  obtain ⟨ρ1, sr1, st1, le1, al1⟩ := hA1
  refine wp_seqK codeOK mixed ?_ ?_ (fun x r h => h.1) hx1 sr1 ?_
  · kernel_rfl
  · kernel_rfl
  intro r2 a2 w2 hA2 hx2
  obtain ⟨ρ2, sr2, st2, le2, al2⟩ := hA2
  refine wp_seqK codeOK mixed ?_ ?_ (fun x r h => h.1) hx2 sr2 ?_
  · kernel_rfl
  · kernel_rfl
  intro r3 a3 w3 hA3 hx3
  obtain ⟨ρ3, sr3, st3, le3, al3⟩ := hA3
  refine wp_seq (wp_X codeOK mixed ?_ ?_ hx3 sr3 ?_)
  · kernel_rfl
  · kernel_rfl
  rintro x s a w4 hA4 ⟨rfl, i, o, hio, h0, h5, h10, hgi, hgo⟩
  obtain ⟨ρ4, sr4, st4, le4, al4⟩ := hA4
  have stA := ((st1.trans st2).trans st3).trans st4
  clear st1 st2 st3 st4 hx1 hx2 hx3 al1 al2 al3 al4
  show Code.wp Tryz.prog _ _ a w4
  obtain ⟨hali, hbi, en, ck, ms, hmap, hkp, hmr⟩ := sr4.inv.obj i _ hgi
  obtain ⟨hks, hvl⟩ := mapS_rep hmr
  have hno : ∀ j ob, (s.h.set i none).get j = some ob → ρ4.blk j ≠ ρ4.blk i := fun j ob hj he => by
    by_cases e : i = j
    · subst e; simp at hj
    · rw [PT.get_set_ne _ _ e] at hj
      exact e (sr4.inv.inj i j _ _ hgi hj he.symm)
  obtain ⟨std, invd⟩ := drop_ok sr4.inv i
  have srA : SR 52 ρ4 w4 ⟨s.t, s.h.set i none, s.nx + 2⟩ a := ⟨invd, sr4.tr.stp std, sr4.size, sr4.defs, fun k hk => Nat.lt_add_right _ (sr4.lt k hk)⟩
  have stB := stA.trans std
  have hfi : ∀ x, ¬ ρ4.frn (ρ4.blk i) x := fun x => sr4.inv.fd i _ x hgi
  refine wp_seq (wp_seq (wp_region ?_))
  show wpOps _ _ _ ([0] ++ [1]) _ _
  refine wpOps_Ops (n := 52) (fn := 226) codeOK mixed [⟨some 31, none, .mov (.t 5)⟩] 0 (base := s.nx) (lg := []) (Qd := fun x r => r.h = s.h.set i none ∧ r.nx = s.nx + 2 ∧ r.t = s.t.set 31 (some (.mm i))) ?_ ?_ ?_ srA (fun j hj => ⟨fun h => ?_, ?_⟩) ?_
  · kernel_rfl
  · kernel_rfl
  · simp only [go_sem, Int.reduceLT, Int.reduceLE, Int.reduceNeg, Int.reduceEq, Nat.reduceAdd, Nat.reduceEqDiff, Nat.reduceLeDiff, Nat.reduceBEq, reduceIte, reduceCtorEq, h5]
  · have := sr4.lt _ h; omega
  · simp at hj; dsimp only; omega
  intro ρ5 w5 a5 r5 sr5 st5 hle5 al5 hq5
  obtain ⟨hr5h, hr5n, hr5t⟩ := hq5
  obtain ⟨t5, h5', n5⟩ := r5
  dsimp only at hr5h hr5n hr5t hle5 st5
  subst hr5h; subst hr5n; subst hr5t
  have stC := stB.trans st5
  have hmap5 : w5.heap[ρ4.blk i]? = some (.map en ck) := (keep_blk st5 hbi hno).trans hmap
  have hali5 := st5.al i hali
  obtain ⟨eb5, _, _⟩ := st5.ag i hali
  have e31 : a5.eval (.tmp 31) = .map (some (ρ4.blk i)) := by
    have := ev_ok sr5.tr (x := .tmp 31) (d := .mm i) (by simp [ev, PT.get_set])
    simp only [DRep] at this
    rw [this.2, eb5]
  rw [wpOps_cons]
  refine wpOp_run rfl rfl (range_run rfl (by rw [e31]; exact run_range_map w5 226 3 4 (ρ4.blk i) en ck Tryz.underlying226 hmap5)) ?_
  have hno5 : ∀ j ob, (s.h.set i none).get j = some ob → ρ5.blk j ≠ ρ4.blk i ∧ ρ5.blk j ≠ w5.heap.size := fun j ob hj => by
    have hj4 : (⟨s.t, s.h.set i none, s.nx + 2⟩ : St).h.get j = some ob := hj
    have := (srA.inv.obj j ob hj4).1
    rw [(st5.ag j this).1]
    refine ⟨hno j ob hj, ?_⟩
    have := (sr5.inv.obj j ob hj).2.1
    rw [(st5.ag j (srA.inv.obj j ob hj4).1).1] at this
    omega
  have hq : ¬ ρ5.al (s.nx + 1) := fun h => by
    rcases al5 _ h with h | ⟨j, hj, h⟩ | h
    · have := sr4.lt _ h; omega
    · simp at hj; omega
    · dsimp only at h; omega
  have inv6 := sr5.inv.same (Stp.alloc0 ρ5 w5 (s.h.set i none) (.mapIter (some (ρ4.blk i)) ck #[] ck)) (fun b hb => heap_old w5 _ hb)
  obtain ⟨st7, inv7⟩ := name_ok inv6 hq w5.heap.size
  have st67 := (Stp.alloc0 ρ5 w5 (s.h.set i none) (.mapIter (some (ρ4.blk i)) ck #[] ck)).trans st7
  have sr7 : SR 52 (ρ5.add (s.nx + 1) w5.heap.size 0 0 0) (w5.alloc (.mapIter (some (ρ4.blk i)) ck #[] ck)) ⟨(s.t.set 31 (some (.mm i))).set 32 (some (.mp (s.nx + 1) 0)), s.h.set i none, s.nx + 2⟩ (a5.put (some 32) (.pointer (some ⟨w5.heap.size, 0, none⟩))) := by
    have base : SR 52 (ρ5.add (s.nx + 1) w5.heap.size 0 0 0) (w5.alloc (.mapIter (some (ρ4.blk i)) ck #[] ck)) ⟨s.t.set 31 (some (.mm i)), s.h.set i none, s.nx + 2⟩ a5 := ⟨inv7, sr5.tr.stp st67, sr5.size, sr5.defs, fun k hk => by
      rcases hk with h | h
      · exact sr5.lt k h
      · dsimp only; omega⟩
    exact base.val (d := .mp (s.nx + 1) 0) (by simp only [DRep]; exact ⟨Rho.add_al .., by simp⟩) (dst := some 32) (by intro d hd; cases hd; exact (by decide : 32 < 52))
  have R0 : RI ρ w cs os zs.flatten i o (s.nx + 1) (ρ4.blk i) w5.heap.size ck en (ρ5.add (s.nx + 1) w5.heap.size 0 0 0) ⟨(s.t.set 31 (some (.mm i))).set 32 (some (.mp (s.nx + 1) 0)), s.h.set i none, s.nx + 2⟩ [] [] (a5.put (some 32) (.pointer (some ⟨w5.heap.size, 0, none⟩))) (w5.alloc (.mapIter (some (ρ4.blk i)) ck #[] ck)) := by
    have hin : i ≠ s.nx + 1 := fun e => by have := sr4.lt i hali; omega
    refine ⟨sr7, stC.trans st67, ?_, ?_, ?_, ?_, ?_, fun j ob hj => ?_, Rho.add_al .., by simp, by simp, .inl hali5, ?_, heap_new _ _, (heap_old w5 _ (blk_some hmap5)).trans hmap5, by simp, by simp, fun x => ?_, ?_⟩
    · simp [PT.get_set, h0]
    · simp [PT.get_set, h5]
    · simp [PT.get_set, h10]
    · simp [PT.get_set]
    · simp only [PT.get_set]
      rw [if_neg hio]
      exact hgo
    · have hal : ρ5.al j := (sr5.inv.obj j ob hj).1
      rw [(Rho.add_old (ρ := ρ5) w5.heap.size 0 0 0 (fun e => hq (by rw [← e]; exact hal))).1]
      exact hno5 j ob hj
    · rw [(Rho.add_old (ρ := ρ5) w5.heap.size 0 0 0 hin).1, eb5]
    · show ¬ ρ5.frn _ x
      rw [st5.frn]
      exact hfi x
    · exact stC.size
  have hkk : ∀ e ∈ en.toList, ∃ k : Int, k ∈ zs.flatten ∧ e.key = .int .i64 k ∧ e.val = .bool true := by
    intro e he
    have hme := (hkp.1.mem_iff).1 he
    have : e.key ∈ ms.map (·.key) := List.mem_map_of_mem hme
    rw [hks, List.mem_map] at this
    obtain ⟨k, hk, hke⟩ := this
    exact ⟨k, hk, hke.symm, hvl e hme⟩
  have hkinj : ∀ e ∈ en.toList, ∀ e' ∈ en.toList, e.key = e'.key → e = e' := by
    have hnd : (ms.map (·.key)).Nodup := by
      rw [hks]
      exact List.Pairwise.map _ (fun a b h e => h (by injection e)) hn
    intro e he e' he' hee
    have h1 := (hkp.1.mem_iff).1 he
    have h2 := (hkp.1.mem_iff).1 he'
    exact inj_of_nodup hnd h1 h2 hee
  show Code.wp Tryz.prog (Code.block 4 _) _ _ _
  refine wp_block (wp_loop_ghost (fun m a' w' => ∃ ρ' s' vis, RI ρ w cs os zs.flatten i o (s.nx + 1) (ρ4.blk i) w5.heap.size ck en ρ' s' (vis.filterMap (visO os zs.flatten)) vis a' w' ∧ m = leftN en vis) _ ⟨_, _, [], R0, rfl⟩ ?_)
  clear R0 sr7 st67 st7 inv7 inv6 hq hno5 e31 hmap5 stC al5 sr5 st5 stB srA invd std hno hmap hbi sr4 sr0 inv hr stA h0 h5 h10 hgi hgo eb5 hfi hali5 hali
  generalize hbm : ρ4.blk i = bm
  generalize hrb : w5.heap.size = rb
  generalize hqq : s.nx + 1 = q
  clear hbm hrb hqq
  rintro m a' w' ⟨ρ', s', vis, R, rfl⟩
  refine wp_seq (wp_region ?_)
  show wpOps _ _ _ [0, 1] _ _
  rw [wpOps_cons]
  have e32 : a'.eval (.tmp 32) = .pointer (some ⟨rb, 0, none⟩) := by
    have := ev_ok R.sr.tr (x := .tmp 32) (d := .mp q 0) (by simp [ev, R.t32])
    simp only [DRep] at this
    rw [this.2, R.blkq, R.stq]
  rcases run_next_at w' _ rb bm ck ck _ en ck R.it R.mp hkp.2.1 (Nat.le_refl _) with ⟨hz, hrun⟩ | ⟨e, he, w1, hw1, hrun⟩
  · refine wpOp_run rfl rfl (next_run rfl (by rw [e32]; exact hrun)) ?_
    have R1 := R.temps (d := .p (.tup [B false])) (v := .tuple #[.bool false]) (by simp only [DRep, PRep, PRepT]; exact ⟨[.bool false], rfl, _, _, rfl, ⟨rfl, rfl⟩, rfl⟩) (j := 33) (k := 2) (by omega) (by omega)
    show wpOps _ _ _ (List.range' 1 [(⟨some 34, none, .xtr 0 (.t 33)⟩ : MO)].length ++ []) _ _
    refine R1.ops s'.nx [⟨some 34, none, .xtr 0 (.t 33)⟩] 1 (T := fun t => t.get 34 = some (.p (B false))) ?_ ?_ ?_ ?_ ?_ ?_
    · kernel_rfl
    · kernel_rfl
    · exact R.sr.lt
    · simp
    · simp only [go_sem, Int.reduceLT, Int.reduceLE, Int.reduceNeg, Int.reduceEq, Nat.reduceAdd, Nat.reduceEqDiff, Nat.reduceLeDiff, Nat.reduceBEq, reduceIte, reduceCtorEq]
      rintro j (rfl | rfl | rfl | rfl) <;> simp
    intro ρ2 w2 a2 r2 R2 _ _ hT
    have e34 : a2.eval (.tmp 34) = .bool false := by
      have := ev_ok R2.sr.tr (x := .tmp 34) (d := .p (B false)) (by simp [ev, hT])
      simp only [DRep, PRep] at this
      exact this.1
    refine wp_seq (wp_cond_false e34 (wp_exit ?_))
    show Code.wp Tryz.prog _ _ a2 w2
    refine wp_X (n := 52) (fn := 226) (m := .seq (.reg none [⟨some 51, none, .mov (.t 10)⟩, ⟨some 4, none, .mov (.t 51)⟩]) .ret) codeOK mixed ?_ ?_ (Q := fun x r => x = .ret ∧ r.h = r2.h ∧ r.t.get 4 = some (.mm o)) ?_ R2.sr ?_
    · kernel_rfl
    · kernel_rfl
    · simp only [go_sem, Int.reduceLT, Int.reduceLE, Int.reduceNeg, Int.reduceEq, Nat.reduceAdd, Nat.reduceEqDiff, Nat.reduceLeDiff, Nat.reduceBEq, reduceIte, reduceCtorEq, R2.t10]
    rintro x r3 a3 w3 hA3 ⟨rfl, hr3, hr4⟩
    obtain ⟨ρ3, sr3, st3, _, _⟩ := hA3
    obtain ⟨v, hv, hdv⟩ := results_ok (P := Tryz.prog) sr3 (fn := Tryz.f226) (d := .mm o) (by simp [results, resD, Tryz.f226, hr4])
    have hro : r3.h.get o = some (.map (mapO (vis.filterMap (visO os zs.flatten)))) := by rw [hr3]; exact R2.ho
    have hperm : vis.Perm en.toList := by
      have hn1 : vis.Nodup := by
        have := R2.nd
        exact List.Pairwise.of_map _ (fun a b h e => h (by rw [e])) this
      have hn2 : en.toList.Nodup := List.Pairwise.of_map _ (fun a b h e => h (by rw [e])) hkp.2.2
      refine (List.perm_ext_iff_of_nodup hn1 hn2).2 (fun x => ⟨fun hx => R2.sub x hx, fun hx => ?_⟩)
      have h1 := all_seen en _ hz x hx
      rw [Array.contains_iff_mem, List.mem_toArray, List.mem_map] at h1
      obtain ⟨y, hy, hyb⟩ := h1
      rw [← born_inj hkp.2.2 (R2.sub y hy) hx hyb]
      exact hy
    have hpo : (mapO (vis.filterMap (visO os zs.flatten))).Perm (overL os zs.flatten) := by
      have h1 := (hperm.trans hkp.1).filterMap (visO os zs.flatten)
      have h2 := h1.map (fun x : Int × Int => (i64 x.1, DV.p (i64 x.2)))
      refine h2.trans ?_
      have := visO_all (os := os) (ks := zs.flatten) hks
      unfold mapO at this
      rw [this]
      exact .refl _
    obtain ⟨st4, inv4⟩ := perm_map sr3.inv hro hpo
    have hst := (R2.st.trans st3).trans st4
    refine ⟨sr3.defs, v, hv, v, ρ3, _, o, rfl, hst, inv4, by simp, st4.dr hdv⟩
  · obtain ⟨hin', hsn⟩ := mem_left he
    have hne : e.born ∉ vis.map (·.born) := by
      intro h
      rw [Array.contains_iff_mem.2 (List.mem_toArray.2 h)] at hsn
      cases hsn
    obtain ⟨k, hk, hek, hev⟩ := hkk e hin'
    obtain ⟨hk0, hkl⟩ := hin k hk
    have hko : os[k.toNat]? = some (os[k.toNat]'(by omega)) := List.getElem?_eq_getElem (by omega)
    generalize hov : (os[k.toNat]'(by omega)) = ov at hko
    obtain ⟨c, hc, hco⟩ := optL_get hos hko
    have hcc : ∃ a1 a2 a3 a4 a5 a6, c = .agg [a1, a2, a3, a4, a5, a6, I ov] := by
      unfold overP at hco
      split at hco
      · cases hco; exact ⟨_, _, _, _, _, _, rfl⟩
      · cases hco
    obtain ⟨b1, b2, b3, b4, b5, b6, rfl⟩ := hcc
    have ekm : ((k.toNat : Nat) : Int) = k := by omega
    have e1 : iadrSX 7 (.p (.lst cs)) (.p (.s (.int .i64 k))) = some (.p (.rp [b1, b2, b3, b4, b5, b6, I ov])) := by
      rw [← ekm]; exact iadrS_lst hc rfl
    have e2 : ∀ h : PT AObj, ldX false 1 (.p (.rp [PDV.s (.int .i64 ov)])) h = some { dv := .p (.s (.int .i64 ov)) } := fun _ => rfl
    have Rw : RI ρ w cs os zs.flatten i o q bm rb ck en ρ' s' (vis.filterMap (visO os zs.flatten)) vis a' w1 := by
      rcases hw1 with rfl | rfl
      · exact R
      · exact R.step R.sr.drew (Stp.drew1 _ _ _) (fun _ _ => rfl) R.ho (fun j ob hj => by rw [hj]; simp)
    have Rs := Rw.seen hin' hne
    refine wpOp_run rfl rfl (next_run rfl (by rw [e32]; exact hrun)) ?_
    have R1 := Rs.temps (d := .p (.tup [B true, I k, B true])) (v := .tuple #[.bool true, e.key, e.val]) (by rw [hek, hev]; simp only [DRep, PRep, PRepT]; exact ⟨[.bool true, .int .i64 k, .bool true], rfl, _, _, rfl, ⟨rfl, rfl⟩, _, _, rfl, ⟨rfl, rfl⟩, _, _, rfl, ⟨rfl, rfl⟩, rfl⟩) (j := 33) (k := 2) (by omega) (by omega)
    show wpOps _ _ _ (List.range' 1 [(⟨some 34, none, .xtr 0 (.t 33)⟩ : MO)].length ++ []) _ _
    refine R1.ops s'.nx [⟨some 34, none, .xtr 0 (.t 33)⟩] 1 (T := fun t => t.get 34 = some (.p (B true))) ?_ ?_ ?_ ?_ ?_ ?_
    · kernel_rfl
    · kernel_rfl
    · exact R.sr.lt
    · simp
    · simp only [go_sem, Int.reduceLT, Int.reduceLE, Int.reduceNeg, Int.reduceEq, Nat.reduceAdd, Nat.reduceEqDiff, Nat.reduceLeDiff, Nat.reduceBEq, reduceIte, reduceCtorEq]
      rintro j (rfl | rfl | rfl | rfl) <;> simp
    intro ρ2 w2 a2 r2 R2 _ _ hT
    have e34 : a2.eval (.tmp 34) = .bool true := by
      have := ev_ok R2.sr.tr (x := .tmp 34) (d := .p (B true)) (by simp [ev, hT])
      simp only [DRep, PRep] at this
      exact this.1
    refine wp_seq (wp_cond_true e34 (wp_skip ?_))
    show Code.wp Tryz.prog _ _ a2 w2
    refine wp_block (wp_seq (wp_region ?_))
    show wpOps _ _ _ [0, 1, 2] _ _
    rw [wpOps_cons]
    have e32' : a2.eval (.tmp 32) = .pointer (some ⟨rb, 0, none⟩) := by
      have := ev_ok R2.sr.tr (x := .tmp 32) (d := .mp q 0) (by simp [ev, R2.t32])
      simp only [DRep] at this
      rw [this.2, R2.blkq, R2.stq]
    refine wpOp_run rfl rfl (entry_run rfl (by rw [e32']; exact run_entry_at w2 rb bm ck (vis.map (·.born)).toArray en ck e (by have := R2.it; simpa using this) R2.mp hin' hkp.2.2)) ?_
    have R3 := R2.temps (d := .p (.tup [I k, B true])) (v := .tuple #[e.key, e.val]) (by rw [hek, hev]; simp only [DRep, PRep, PRepT]; exact ⟨[.int .i64 k, .bool true], rfl, _, _, rfl, ⟨rfl, rfl⟩, _, _, rfl, ⟨rfl, rfl⟩, rfl⟩) (j := 35) (k := 3) (by omega) (by omega)
    show wpOps _ _ _ (List.range' 1 [(⟨some 36, none, .xtr 0 (.t 35)⟩ : MO), ⟨some 11, none, .mov (.t 36)⟩].length ++ []) _ _
    refine R3.ops r2.nx [⟨some 36, none, .xtr 0 (.t 35)⟩, ⟨some 11, none, .mov (.t 36)⟩] 1 (T := fun t => t.get 11 = some (.p (I k))) ?_ ?_ ?_ ?_ ?_ ?_
    · kernel_rfl
    · kernel_rfl
    · exact R2.sr.lt
    · simp
    · simp only [go_sem, Int.reduceLT, Int.reduceLE, Int.reduceNeg, Int.reduceEq, Nat.reduceAdd, Nat.reduceEqDiff, Nat.reduceLeDiff, Nat.reduceBEq, reduceIte, reduceCtorEq]
      rintro j (rfl | rfl | rfl | rfl) <;> simp
    intro ρ4' w4' a4' r4 R4 _ _ hT4
    show Code.wp Tryz.prog _ _ a4' w4'
    refine wp_seq (wp_region ?_)
    show wpOps _ _ _ (List.range' 0 [(⟨some 37, none, .mov (.t 5)⟩ : MO), ⟨some 38, none, .mov (.t 0)⟩, ⟨some 39, none, .mov (.t 11)⟩, ⟨some 40, none, .iadrS 7 (.t 38) (.t 39)⟩, ⟨some 41, none, .fadr 6 (.t 40)⟩, ⟨some 42, none, .load false 1 (.t 41)⟩].length ++ [6]) _ _
    refine (R4.room 7).ops r4.nx [⟨some 37, none, .mov (.t 5)⟩, ⟨some 38, none, .mov (.t 0)⟩, ⟨some 39, none, .mov (.t 11)⟩, ⟨some 40, none, .iadrS 7 (.t 38) (.t 39)⟩, ⟨some 41, none, .fadr 6 (.t 40)⟩, ⟨some 42, none, .load false 1 (.t 41)⟩] 0 (T := fun t => t.get 37 = some (.mm i) ∧ t.get 42 = some (.p (I ov)) ∧ t.get 11 = some (.p (I k))) ?_ ?_ ?_ ?_ ?_ ?_
    · kernel_rfl
    · kernel_rfl
    · exact R4.sr.lt
    · simp
    · simp only [go_sem, Int.reduceLT, Int.reduceLE, Int.reduceNeg, Int.reduceEq, Nat.reduceAdd, Nat.reduceEqDiff, Nat.reduceLeDiff, Nat.reduceBEq, reduceIte, reduceCtorEq, R4.t0, R4.t5, hT4, e1, e2]
      rintro j (rfl | rfl | rfl | rfl) <;> simp [R4.t0, R4.t5]
    rintro ρ5' w5' a5' r5 R5 _ _ ⟨hT37, hT42, hT11⟩
    have e37 : a5'.eval (.tmp 37) = .map (some bm) := by
      have := ev_ok R5.sr.tr (x := .tmp 37) (d := .mm i) (by simp [ev, hT37])
      simp only [DRep] at this
      rw [this.2, R5.blki]
    have e42 : a5'.eval (.tmp 42) = .int .i64 ov := by
      have := ev_ok R5.sr.tr (x := .tmp 42) (d := .p (I ov)) (by simp [ev, hT42])
      simp only [DRep, PRep] at this
      exact this.1
    rw [wpOps_cons]
    refine wpOp_run rfl rfl (lookup_run rfl (by rw [e37, e42]; exact lone_lookup R5.sr.inv.fb R5.ali R5.blki hn R5.mp hkp (fun {_ _ _} => mapS_all hmr) R5.nf ov)) ?_
    have R6 := R5.temps (d := .p (B (memB ov zs.flatten))) (v := .bool (memB ov zs.flatten)) (b_rep _) (j := 43) (k := 0) (by omega) (by omega)
    have hnl : k ∉ (vis.filterMap (visO os zs.flatten)).map (·.1) := by
      intro h
      rw [List.mem_map] at h
      obtain ⟨x, hx, hxk⟩ := h
      rw [List.mem_filterMap] at hx
      obtain ⟨m, hm, hmx⟩ := hx
      have h1 := visO_key hmx
      rw [hxk, ← hek] at h1
      have := hkinj m (R.sub m hm) e hin' h1
      subst this
      exact hne (List.mem_map_of_mem hm)
    have hout : (vis ++ [e]).filterMap (visO os zs.flatten) = vis.filterMap (visO os zs.flatten) ++ if memB ov zs.flatten then [(k, ov)] else [] := by
      rw [List.filterMap_append]
      congr 1
      have : visO os zs.flatten e = if memB ov zs.flatten then some (k, ov) else none := by
        simp only [visO, hek, hko, memB]
        by_cases h : ov ∈ zs.flatten <;> simp [h]
      simp only [List.filterMap_cons, List.filterMap_nil, this]
      cases memB ov zs.flatten <;> rfl
    show Code.wp Tryz.prog _ _ _ w5'
    refine wp_X (n := 52) (fn := 226) (m := mIn) codeOK mixed ?_ ?_ (in_X cs os hos hk0 hko (memB ov zs.flatten) hnl R6.t0 R6.t10 (by simp [PT.get_set, hT11]) (by simp [PT.get_set]) R6.ho) R6.sr ?_
    · kernel_rfl
    · kernel_rfl
    rintro x r7 a7 w7 hA7 ⟨rfl, hoth, hnew, hkeep⟩
    obtain ⟨ρ7, sr7, st7, _, _⟩ := hA7
    refine ⟨leftN en (vis ++ [e]), ?_, ρ7, r7, vis ++ [e], ?_, rfl⟩
    · have := left_shrinks en _ e he
      simpa [leftN] using this
    · rw [hout]
      refine R6.step sr7 st7 hkeep hnew (fun j ob hj => ?_)
      by_cases e : j = o
      · subst e
        have := R6.ho
        rw [this]; simp
      · rw [← hoth j e, hj]; simp
theorem own_map {ρ ρ1 : Rho} {w w1 : World} {hf h1 : PT AObj} (inv : Inv ρ w hf) (s : Stp (inner ρ w hf) w .leaf ρ1 w1 h1) (inv1 : Inv ρ1 w1 h1) {id : Nat} (hid : ¬ ρ.al id) {i : Nat} {es : List (PDV × DV)} (ho : h1.get i = some (.map es)) (hm : ∀ {w2 : World} {h2 : PT AObj} {ρ2 : Rho} {ms : List MapEntry}, MapR w1 h1 ρ1 es ms → MapR w2 h2 ρ2 es ms) {v : Value} (hr : DR w1 h1 ρ1 (.mm i) v) :
    ∃ ρ', Stp ρ w hf ρ' w1 (hf.set id (some (.map es))) ∧ Inv ρ' w1 (hf.set id (some (.map es))) ∧ DR w1 (hf.set id (some (.map es))) ρ' (.mm id) v ∧ ∀ i, ρ'.al i → ρ.al i ∨ i = id := by
  have wr1 : ∀ o, Wr h1 ρ1 (ρ1.blk i) o := fun o => ⟨i, _, ho, rfl, trivial⟩
  have hblk := blk_new s (wr1 0)
  obtain ⟨_, hb, en, ck, ms, hg, hk, hmr⟩ := inv1.obj i _ ho
  obtain ⟨st, i2⟩ := take_ok inv s inv1 hid ho hblk (.map es) 0 (fun _ => by
    simp only [OR, Rho.add_blk]
    exact ⟨en, ck, ms, hg, hk, hm hmr⟩)
  refine ⟨_, st, i2, ?_, fun _ hi => hi⟩
  simp only [DRep] at hr ⊢
  exact ⟨Rho.add_al .., by rw [Rho.add_blk]; exact hr.2⟩
theorem over_ok : ∀ xs h id e, overX xs h id = some e → ∀ ρ w vs, Inv ρ w h → ¬ ρ.al id → DRT w h ρ xs vs → COK Tryz.prog 226 vs ρ w h id e := by
  intro xs h id e hd ρ w vs inv hid hr
  unfold overX at hd
  split at hd
  · rename_i cs ps
    split at hd
    · rename_i os zs hos hzs
      split at hd
      · rename_i hc
        obtain ⟨c1, c2, c3, c4⟩ := hc
        cases hd
        have hps := intsP_all hzs
        subst hps
        have hr' : PRepT (Fx w (Wf h ρ)) [.lst cs, .agg [.lst (zs.map L)]] vs := PRepT.of_p (ρ := ρ) (T := Tp h) hr
        have hin : ∀ k ∈ zs.flatten, 0 ≤ k ∧ k < os.length := fun k hk => by
          have := List.all_eq_true.1 c2 k hk
          simpa using this
        have hl2 : ∀ z ∈ zs, z.length ≤ 4096 := fun z hz => by
          have := List.all_eq_true.1 c4 z hz
          simpa using this
        have hcall := over_in hos zs c1 hin c3 hl2 (inner_inv ρ w h) (vs := vs) (DRepT.of_plain (l := [.lst cs, .agg [.lst (zs.map L)]]) (PRepT.mono (fun a v hx => inner_fx hx) _ _ hr')) (fun k hk => hk)
        refine Calls.mono hcall ?_
        rintro en w' ⟨v, ρ', h', i, rfl, st, i2, hg, hdr⟩
        obtain ⟨ρ2, st2, i3, d3, a3⟩ := own_map inv st i2 hid hg (fun hm => over_rep hm) hdr
        exact ⟨v, ρ2, rfl, st2, i3, d3, a3⟩
      · cases hd
    · cases hd
  · cases hd
theorem over_loc : ∀ xs h h' id e, overX xs h id = some e → (∀ i ∈ e.rd, h'.get i = h.get i) → overX xs h' id = some e := fun xs h h' id e hd _ => hd
end Go.Proofs.YtddmnddocbmjnaaGreat.Dv
namespace Go.Proofs.YtddmnddocbmjnaaGreat.Dv
open Go.RowKit
section
variable {P : Program} {G : Cfg}
theorem callP_true (hE : ExtOK P G) (hL : ExtLoc G) (hC : CodeOK P) (hm : P.follows .mixedOrders = true) {k : Nat} {f : FuncId} {ds : List PDV} {b : Bool} (hcall : callP P G k f ds = some (.s (.bool b))) {w : World} {vs : List Value} (hargs : PRepT (fun a v => w.cell? a = some v) ds vs) :
    Calls P f vs.toArray w fun e w' => e = .returned (.bool b) ∧ Below w.heap.size w w' := by
  unfold callP at hcall
  split at hcall
  · rename_i r h n hc
    cases hs : snap h r with
    | none => rw [hs] at hcall; cases hcall
    | some q =>
      rw [hs] at hcall
      simp only [Option.map_some, Option.some.injEq] at hcall
      obtain ⟨q, rd⟩ := q
      simp only at hcall
      subst hcall
      let ρ : Rho := ⟨fun _ => 0, fun _ => 0, fun _ => 0, fun _ => 0, fun _ => False, fun _ _ => False⟩
      have no : ∀ b o, ¬ Wf .leaf ρ b o := fun b o hw => hw.elim (fun h => h) (no_wr _ _ _)
      have inv : Inv ρ w .leaf := ⟨fun id ob hg => by simp at hg, fun i j x y hg => by simp at hg, fun b o hb => hb.elim, fun id ob o hg => by simp at hg⟩
      have ha : DRT w .leaf ρ (ds.map .p) vs := DRepT.of_plain (PRepT.mono (fun a v hv => ⟨cell_lt hv, hv, no _ _⟩) _ _ hargs)
      refine Calls.mono (call_ok hE hL hC hm k _ _ _ _ _ _ _ hc ρ w vs inv ha (fun k hk => hk.elim)) ?_
      rintro e w' ⟨v, ρ', rfl, st, i2, dr, _, _⟩
      have hp : PRep (fun _ _ => True) (.s (.bool b)) v := snapF_ok i2 (fun _ _ _ => trivial) 40 hs (fun _ _ _ _ _ _ _ _ _ => trivial) dr
      simp only [PRep] at hp
      exact ⟨by rw [hp.1], ⟨st.os, st.tape, st.output, st.size, fun b hb => outer st b hb⟩⟩
  · cases hcall
end
end Go.Proofs.YtddmnddocbmjnaaGreat.Dv
namespace Go.Proofs.YtddmnddocbmjnaaGreat.Dv
open Go.RowKit Go.ChangeShapes Go.WideShapes Go.ChangeAt
section
variable {P : Program} {w : World}
noncomputable def zvP (P : Program) (t : TypeId) : Value := ((P.info? t).bind (·.zero)).getD (.tuple #[])
def wtV (P : Program) (t : TypeId) (x : PDV) : Prop := (aggT P t = some true ∧ ∃ c, x = .agg c ∧ wt P 12 t c) ∨ (aggT P t = some false ∧ wt P 12 t [x])
def wtA (P : Program) : List TypeId → List PDV → Prop
  | [], [] => True
  | t :: ts, x :: xs => wtV P t x ∧ wtA P ts xs
  | _, _ => False
def argOK (P : Program) (t : TypeId) : Bool := tyOK P 12 t && (aggT P t).isSome
theorem okWide_agg {t : TypeId} {base : Nat} {v : Value} (h : Value.okWide P w .any base t v) (ha : aggT P t = some true) : ∃ cs, v = .agg cs := by
  unfold aggT at ha
  unfold Value.okWide at h
  cases hu : P.underlying t with
  | none => rw [hu] at ha; cases ha
  | some u =>
    rw [hu] at ha h
    cases u with
    | struct fs => obtain ⟨cs, rfl, _⟩ := h; exact ⟨cs, rfl⟩
    | array m e => obtain ⟨cs, rfl, _⟩ := h; exact ⟨cs, rfl⟩
    | _ => simp at ha
theorem okWide_one {t : TypeId} {base n : Nat} {v : Value} (h : Value.okWide P w .any base t v) (ha : aggT P t = some false) (ht : tyOK P n t = true) : v.cells = #[v] := by
  cases n with
  | zero => simp [tyOK] at ht
  | succ n =>
    unfold tyOK at ht
    unfold aggT at ha
    unfold Value.okWide at h
    cases hu : P.underlying t with
    | none => rw [hu] at ha; cases ha
    | some u =>
      rw [hu] at ha h ht
      cases u with
      | struct fs => simp at ha
      | array m e => simp at ha
      | bool => cases v <;> simp_all [Cell.okWide, Cell.ok, Value.cells]
      | int k => cases v <;> simp_all [Cell.okWide, Cell.ok, Value.cells]
      | string => cases v <;> simp_all [Cell.okWide, Cell.ok, Value.cells]
      | slice e => cases v <;> simp_all [Cell.okWide, Cell.ok, Value.cells]
      | _ => simp at ht
theorem args_open {H : Type} {enc : TypeId × Value → H} {base : Nat} : ∀ {ts : List TypeId} {vs : List Value} {ds : List (DataW H)} {ps : List MemPlace}, DataW.TrodAll enc P w 0 (fun _ => true) true ts vs ds ps → (∀ t ∈ ts, argOK P t = true) → (∀ (j : Nat) t v, ts[j]? = some t → vs[j]? = some v → Value.okWide P w .any base t v) → (∀ x ∈ DataW.weightsEach P ts ds, x ≤ reachBytes) → ∃ xs : List PDV, PRepT (fun a v => w.cell? a = some v) xs vs ∧ wtA P ts xs
  | [], vs, ds, ps, h, _, _, _ => by
    cases vs with
    | nil => exact ⟨[], rfl, trivial⟩
    | cons v vs => cases ds <;> simp [DataW.TrodAll] at h
  | t :: ts, vs, ds, ps, h, ht, hv, hwt => by
    obtain ⟨v, vs', d, ds', p, q, rfl, rfl, rfl, h1, h2⟩ := trodAll_cons h
    obtain ⟨xs, hx, hw⟩ := args_open h2 (fun t ht' => ht t (by simp [ht'])) (fun j t v h1 h2 => hv (j + 1) t v (by simpa using h1) (by simpa using h2)) (fun x hx => hwt x (by simp only [DataW.weightsEach, List.mem_append]; exact .inr hx))
    have hok := hv 0 t v rfl rfl
    have hta := ht t (by simp)
    simp only [argOK, Bool.and_eq_true] at hta
    obtain ⟨hty, hag⟩ := hta
    obtain ⟨fuel, hf⟩ := h1
    obtain ⟨c, hc1, hc2⟩ := trod_open (F := fun a v => w.cell? a = some v) (fun _ _ h => h) 12 fuel t _ d p hty hf (fun x hx => hwt x (by simp only [DataW.weightsEach, List.mem_append]; exact .inl hx))
    cases ha : aggT P t with
    | none => rw [ha] at hag; cases hag
    | some g =>
      cases g with
      | true =>
        obtain ⟨cs, rfl⟩ := okWide_agg hok ha
        refine ⟨.agg c :: xs, ?_, .inl ⟨ha, c, rfl, hc2⟩, hw⟩
        simp only [PRepT, PRep]
        exact ⟨_, _, rfl, ⟨cs.toList, by simp, by simpa [Value.cells] using hc1⟩, hx⟩
      | false =>
        have he := okWide_one hok ha hty
        rw [he] at hc1
        obtain ⟨d', rfl⟩ := wt_one hc2 ha
        refine ⟨d' :: xs, ?_, .inr ⟨ha, hc2⟩, hw⟩
        simp only [PRepL] at hc1
        obtain ⟨y, ys, hy, _, hd, rfl⟩ := hc1
        simp only [List.cons.injEq] at hy
        simp only [PRepT]
        exact ⟨v, vs', rfl, by rw [show v = y by simpa using hy]; exact hd, hx⟩
theorem args_stay {H : Type} {enc : TypeId × Value → H} (hl : laidOutB P = true) {w' : World} (hb : Below w.heap.size w w') {sp : Nat → Bool} : ∀ {ts : List TypeId} {vs : List Value} {ds : List (DataW H)} {ps : List MemPlace}, DataW.TrodAll enc P w 0 (fun _ => true) true ts vs ds ps → (∀ t ∈ ts, P.readableRec t = true ∧ t < P.types.size) → (∀ x ∈ ps, x.block < w.heap.size ∧ sp x.block = true) → DataW.TrodAll enc P w' 0 sp true ts vs ds ps
  | [], vs, ds, ps, h, _, _ => by
    cases vs with
    | nil => cases ds <;> exact h
    | cons v vs => cases ds <;> simp [DataW.TrodAll] at h
  | t :: ts, vs, ds, ps, h, ht, hlt => by
    obtain ⟨v, vs', d, ds', p, q, rfl, rfl, rfl, h1, h2⟩ := trodAll_cons h
    refine ⟨p, q, ?_, args_stay hl hb h2 (fun t ht' => ht t (by simp [ht'])) (fun x hx => hlt x (by simp [hx])), rfl⟩
    exact WideElems.Trod_stays hl (ht t (by simp)).1 (ht t (by simp)).2 h1 (fun x hx => hb.same (hlt x (by simp [hx])).1) (fun x hx => (hlt x (by simp [hx])).2)
end
section
variable {H : Type} {enc : TypeId × Value → H} {P : Program}
theorem post_of_below {f : Func} {s : ChangeSpec} {apart fresh handsOn again : Bool} {W W' : World} {args : Array Value} {v : Value} {ds gs : List (DataW H)} {before pa pv : List MemPlace}
    (hW : DataW.Whole enc P f.params.toList s.vars apart W args.toList ds gs before)
    (hres : ∀ (b : Nat) (sp : Nat → Bool) (hd : Bool), DataW.TrodAll enc P W' b sp hd f.resultTypes.toList (v.resultList f.resultTypes.size) (s.fn H (ds ++ gs)).results [])
    (hargs : ∀ sp : Nat → Bool, (∀ p ∈ before, sp p.block = true) → DataW.TrodAll enc P W' 0 sp true f.params.toList args.toList (s.fn H (ds ++ gs)).args pa)
    (hvars : ∀ sp : Nat → Bool, (∀ p ∈ before, sp p.block = true) → DataW.TrodVars enc P W' sp s.vars (s.fn H (ds ++ gs)).vars pv)
    (hps : before = pa ++ pv) (hb : Below W.heap.size W W')
    (hok : ∀ (j : Nat) (t : TypeId) (r : Value), f.resultTypes[j]? = some t → (v.resultList f.resultTypes.size)[j]? = some r → Value.okWide P W' .any 0 t r) :
    s.post enc P f apart fresh handsOn again W args v W' := by
  have hlt : ∀ p ∈ before, p.block < W.heap.size := fun p hp => hW.lt p hp
  have hold : ∀ p ∈ before, (fun b => decide (b < W.heap.size)) p.block = true := fun p hp => by simpa using hlt p hp
  refine ⟨ds, gs, before, [], pa, pv, hW, hres _ _ _, hargs _ hold, hvars _ hold, World.keptBut_mono (fun p hp => ⟨hp, ?_⟩) (hb.frame (· ∈ before)), fun _ => ?_⟩
  · rw [hps, List.mem_append] at hp
    exact Or.inr hp
  · obtain ⟨_, _, _, _, _, hz, hn⟩ := hW
    refine ⟨hok, _, _, ([] ++ pa) ++ pv, ⟨[] ++ pa, pv, trodAll_append (hargs _ (fun _ _ => rfl)) (hres _ _ _), hvars _ (fun _ _ => rfl), rfl, ?_, ?_⟩, ?_⟩
    · intro b off hp
      have hin : MemPlace.cell b off ∈ before := by rw [hps]; simpa using hp
      rw [hb.frozen (hlt _ hin)]
      exact hz b off hin
    · intro ha
      have := hn ha
      rw [hps] at this
      simpa using this
    · intro p hp _
      rw [hps]
      simpa using hp
theorem law_post {G : Cfg} (hE : ExtOK P G) (hL : ExtLoc G) (hC : CodeOK P) (hm : P.follows .mixedOrders = true) (hl : laidOutB P = true) {f : FuncId} {fn : Func} {s : ChangeSpec} {apart fresh handsOn again : Bool} {bt : TypeId} (hvars : s.vars = []) (hrt : fn.resultTypes = #[bt]) (hbt : P.underlying bt = some .bool)
    (hps : ∀ t ∈ fn.params.toList, argOK P t = true ∧ P.readableRec t = true ∧ t < P.types.size)
    (hs : ∀ ds : List (DataW H), ds.length = fn.params.size → (s.fn H ds).results = [.lit (.bool true)] ∧ (s.fn H ds).args = ds ∧ (s.fn H ds).vars = [])
    (hlaw : ∀ xs : List PDV, wtA P fn.params.toList xs → ∃ k, callP P G k f xs = some (.s (.bool true)))
    {W : World} {base : Nat} {args : Array Value} {ds gs : List (DataW H)} {before : List MemPlace} (hwts : ∀ x ∈ DataW.weightsEach P fn.params.toList ds, x ≤ reachBytes) (hval : ∀ (j : Nat) t v, fn.params[j]? = some t → args[j]? = some v → Value.okWide P W .any base t v)
    (hW : DataW.Whole enc P fn.params.toList s.vars apart W args.toList ds gs before) :
    Calls P f args W fun e W' => ∃ v, e = .returned v ∧ s.post enc P fn apart fresh handsOn again W args v W' := by
  have hW' := hW
  obtain ⟨p, q, hA, hV, rfl, hfz, hnd⟩ := hW
  rw [hvars] at hV
  obtain ⟨rfl, rfl⟩ := trodVars_none hV
  have hlen : ds.length = fn.params.size := by
    have : ∀ {ts : List TypeId} {vs : List Value} {ds : List (DataW H)} {ps : List MemPlace}, DataW.TrodAll enc P W 0 (fun _ => true) true ts vs ds ps → ds.length = ts.length := by
      intro ts
      induction ts with
      | nil => intro vs ds ps h; cases vs <;> cases ds <;> simp_all [DataW.TrodAll]
      | cons t ts ih =>
        intro vs ds ps h
        obtain ⟨v, vs', d, ds', p, q, rfl, rfl, rfl, h1, h2⟩ := trodAll_cons h
        simp [ih h2]
    simpa using this hA
  obtain ⟨xs, hx, hwt⟩ := args_open (base := base) hA (fun t ht => (hps t ht).1) (fun j t v h1 h2 => hval j t v (by simpa using h1) (by simpa using h2)) hwts
  obtain ⟨k, hk⟩ := hlaw xs hwt
  have hc := callP_true hE hL hC hm hk hx
  have hargs : args.toList.toArray = args := by simp
  rw [hargs] at hc
  refine hc.mono ?_
  rintro e W' ⟨rfl, hb⟩
  refine ⟨_, rfl, ?_⟩
  obtain ⟨e1, e2, e3⟩ := hs ds hlen
  have hlt : ∀ x ∈ p ++ [], x.block < W.heap.size := fun x hx => hW'.lt x hx
  refine post_of_below (pa := p) (pv := []) hW' (fun b sp hd => ?_) (fun sp hsp => ?_) (fun sp _ => ?_) (by simp) hb ?_
  · rw [List.append_nil, e1, hrt]
    exact trodAll_mk1 (shut_bool hbt true)
  · rw [List.append_nil, e2]
    exact args_stay hl hb hA (fun t ht => (hps t ht).2) (fun x hx => ⟨hlt x (by simpa using hx), hsp x (by simpa using hx)⟩)
  · rw [List.append_nil, e3, hvars]
    rfl
  · exact ok_one hrt rfl (okWide_bool_mk hbt true)
theorem law_lift {G : Cfg} {C : Checked} (hE : ExtOK C.prog G) (hL : ExtLoc G) (hC : CodeOK C.prog) (hm : C.prog.follows .mixedOrders = true) (hl : laidOutB C.prog = true) {os : Os} {f : FuncId} {fn : Func} {s : ChangeSpec} {conds : List PathCond} {apart fresh handsOn again : Bool} {bt : TypeId}
    (own : ownKnob C.prog.godebug = none) (started : os.Started) (noInit : C.prog.inits.idxOf? f = none) (hfn : C.prog.funcs[f]? = some fn)
    (witness : ∃ (w : World) (tape : Tape) (i : Input), w.os = os ∧ (w.forCall tape i).Shaped C.prog ∧ i.vars = [] ∧ Input.okWide C.prog (w.forCall tape i) .any w.heap.size f i ∧
      s.pre6 enc C.prog fn conds apart (w.forCall tape i).memory i.args ∧ Assume.holds {} C.prog (lone (Frame.enter C.prog f i.args .normal) [] (w.forCall tape i)))
    (hvars : s.vars = []) (hvt : s.plain.varTypes C.prog = []) (hrt : fn.resultTypes = #[bt]) (hbt : C.prog.underlying bt = some .bool)
    (hps : ∀ t ∈ fn.params.toList, argOK C.prog t = true ∧ C.prog.readableRec t = true ∧ t < C.prog.types.size)
    (hs : ∀ ds : List (DataW H), ds.length = fn.params.size → (s.fn H ds).results = [.lit (.bool true)] ∧ (s.fn H ds).args = ds ∧ (s.fn H ds).vars = [])
    (hlaw : ∀ xs : List PDV, wtA C.prog fn.params.toList xs → ∃ k, callP C.prog G k f xs = some (.s (.bool true))) :
    ReturnsInHanded {} C os f .any (s.pre6 enc C.prog fn conds apart) (s.post enc C.prog fn apart fresh handsOn again) := by
  refine returnsInHanded_of_calls own started noInit witness ?_
  intro w tape i _ _ _ hok hpre hholds
  obtain ⟨_, _, _, fn', hfn', _, _, _, _, hval⟩ := hok
  have e : fn' = fn := Option.some.inj (hfn'.symm.trans hfn)
  subst e
  obtain ⟨⟨ds, gs, before, hw, hc⟩, hz⟩ := hpre
  have hw' := DataW.Whole.of_heap (w' := w.forCall tape i) (by rfl) hw
  have hwt := hz.weights hw
  have hgs : gs = [] := by
    obtain ⟨p, q, hA, hV, _⟩ := hw
    rw [hvars] at hV
    exact (trodVars_none hV).1
  subst hgs
  have hwt' : ∀ x ∈ DataW.weightsEach C.prog fn'.params.toList ds, x ≤ reachBytes := by
    intro x hx
    have hv2 : (OpenSpec.ofChange s).bare.plain.varTypes C.prog = [] := hvt
    rw [hv2, List.append_nil, List.append_nil] at hwt
    have := List.all_eq_true.1 hwt x hx
    simpa using this
  refine (law_post (fresh := fresh) (handsOn := handsOn) (again := again) (bt := bt) hE hL hC hm hl hvars hrt hbt hps hs hlaw hwt' hval hw').mono fun e W' ⟨v, he, hp⟩ => ?_
  subst he
  exact ChangeSpec.post_blind hp
end
end Go.Proofs.YtddmnddocbmjnaaGreat.Dv
namespace Go.Proofs.YtddmnddocbmjnaaGreat
theorem Tryz.own : ownKnob Tryz.prog.godebug = none := by kernel_rfl
theorem Tryz.laidOut : laidOutB Tryz.prog = true := by kernel_rfl
end Go.Proofs.YtddmnddocbmjnaaGreat
namespace Go.Proofs.YtddmnddocbmjnaaGreat.Dv
theorem ext_cases {g : FuncId} {F : ExtF} (h : G0.ext g = some F) : (g = 44 ∧ F = sort3X) ∨ (g = 226 ∧ F = overX) ∨ (g = 58 ∧ F = sortX) := by
  simp only [G0, exts, List.find?_cons, List.find?_nil] at h
  split at h
  · rename_i hg; cases h; exact .inl ⟨(beq_iff_eq.1 hg).symm, rfl⟩
  · split at h
    · rename_i hg; cases h; exact .inr (.inl ⟨(beq_iff_eq.1 hg).symm, rfl⟩)
    · split at h
      · rename_i hg; cases h; exact .inr (.inr ⟨(beq_iff_eq.1 hg).symm, rfl⟩)
      · cases h
theorem extOK : ExtOK Tryz.prog G0 := by
  intro g F hF
  rcases ext_cases hF with ⟨rfl, rfl⟩ | ⟨rfl, rfl⟩ | ⟨rfl, rfl⟩
  · exact sort3_ok
  · exact over_ok
  · exact sort_ok
theorem extLoc : ExtLoc G0 := by
  intro g F hF
  rcases ext_cases hF with ⟨rfl, rfl⟩ | ⟨rfl, rfl⟩ | ⟨rfl, rfl⟩
  · exact sort3_loc
  · exact over_loc
  · exact sort_loc
end Go.Proofs.YtddmnddocbmjnaaGreat.Dv
namespace Go.Proofs.YtddmnddocbmjnaaGreat.Dv
abbrev Q0 (g : FuncId) : Prop := ∀ {fn : FuncId} {xs : List DV} {dst : Option Nat} {id : Nat} {s : St}, mCall G0 fn (callR Tryz.prog G0) g xs dst id s = mRes Tryz.prog G0 g dst s (snaps s.h xs)
def m_when_within : MF := ⟨15, (.seq (.reg none [Oo 6 (.mov (.d (.p (.s (.bool false)))))]) (.seq (.reg none [Om 7 1, Om 8 0, Oo 9 (.iop .leq (.t 7) (.t 8)), Om 10 9, Og 11 10 true (.mov (.t 0)), Og 12 10 true (.mov (.t 2)), Og 13 10 true (.iop .leq (.t 11) (.t 12)), Oo 14 (.pick (.t 10) (.t 13) (.d (.p (.s (.bool false))))), Om 6 14]) .ret)), [.tmp 6]⟩
theorem c_when_within : comp Tryz.prog G0 199 = some m_when_within := by kernel_rfl
theorem q_when_within : Q0 199 := mCall_pure rfl
def m_when_tame : MF := ⟨11, (.seq (.reg none [Oo 1 (.box (.t 0)), Oo 2 (.mov (.d (.p (.s (.bool false)))))]) (.seq (.reg none [Of 3 2 1, Ol 4 3, Oo 5 (.call 199 [.t 4, (.d (Ci 0)), (.d (Ci 96))]), Om 6 5, Og 7 6 true (.fadr 3 (.t 1)), Og 8 6 true (.load false 1 (.t 7)), Og 9 6 true (.call 199 [.t 8, (.d (Ci 1)), (.d (Ci 96))]), Oo 10 (.pick (.t 6) (.t 9) (.d (.p (.s (.bool false))))), Om 2 10]) .ret)), [.tmp 2]⟩
theorem c_when_tame : comp Tryz.prog G0 215 = some m_when_tame := by kernel_rfl
theorem q_when_tame : Q0 215 := mCall_pure rfl
def m_when_RightGrid : MF := ⟨16, (.seq (.reg none [Oo 1 (.box (.t 0)), Oo 2 (.mov (.d (.p (.s (.bool false)))))]) (.seq (.reg none [Of 3 0 1, Ol 4 3, Oo 5 (.call 199 [.t 4, (.d (Ci 1)), (.d (Ci 20))]), Om 6 5, Og 7 6 true (.fadr 1 (.t 1)), Og 8 6 true (.load false 1 (.t 7)), Og 9 6 true (.call 199 [.t 8, (.d (Ci 1)), (.d (Ci 7))]), Oo 10 (.pick (.t 6) (.t 9) (.d (.p (.s (.bool false))))), Om 11 10, Og 12 11 true (.fadr 2 (.t 1)), Og 13 11 true (.load false 1 (.t 12)), Og 14 11 true (.call 199 [.t 13, (.d (Ci 1)), (.d (Ci 96))]), Oo 15 (.pick (.t 11) (.t 14) (.d (.p (.s (.bool false))))), Om 2 15]) .ret)), [.tmp 2]⟩
theorem c_when_RightGrid : comp Tryz.prog G0 120 = some m_when_RightGrid := by kernel_rfl
theorem q_when_RightGrid : Q0 120 := mCall_pure rfl
def m_ref09_RightGrid : MF := ⟨31, (.seq (.reg none [Oo 1 (.box (.t 0)), Oo 2 (.mov (.d (.p (.s (.bool false)))))]) (.seq (.reg none [Of 3 0 1, Ol 4 3, Oo 5 (.iop .geq (.t 4) (.d (Ci 1))), Om 6 5, Og 7 6 true (.fadr 0 (.t 1)), Og 8 6 true (.load false 1 (.t 7)), Og 9 6 true (.iop .leq (.t 8) (.d (Ci 20))), Oo 10 (.pick (.t 6) (.t 9) (.d (.p (.s (.bool false))))), Om 11 10, Og 12 11 true (.fadr 1 (.t 1)), Og 13 11 true (.load false 1 (.t 12)), Og 14 11 true (.iop .geq (.t 13) (.d (Ci 1))), Oo 15 (.pick (.t 11) (.t 14) (.d (.p (.s (.bool false))))), Om 16 15, Og 17 16 true (.fadr 1 (.t 1)), Og 18 16 true (.load false 1 (.t 17)), Og 19 16 true (.iop .leq (.t 18) (.d (Ci 7))), Oo 20 (.pick (.t 16) (.t 19) (.d (.p (.s (.bool false))))), Om 21 20, Og 22 21 true (.fadr 2 (.t 1)), Og 23 21 true (.load false 1 (.t 22)), Og 24 21 true (.iop .geq (.t 23) (.d (Ci 1))), Oo 25 (.pick (.t 21) (.t 24) (.d (.p (.s (.bool false))))), Om 26 25, Og 27 26 true (.fadr 2 (.t 1)), Og 28 26 true (.load false 1 (.t 27)), Og 29 26 true (.iop .leq (.t 28) (.d (Ci 96))), Oo 30 (.pick (.t 26) (.t 29) (.d (.p (.s (.bool false))))), Om 2 30]) .ret)), [.tmp 2]⟩
theorem c_ref09_RightGrid : comp Tryz.prog G0 190 = some m_ref09_RightGrid := by kernel_rfl
theorem q_ref09_RightGrid : Q0 190 := mCall_pure rfl
theorem within_res (n a b : Int) : res Tryz.prog G0 199 [I n, I a, I b] = some (B (decide (a ≤ n) && decide (n ≤ b))) := by
  refine res_body c_when_within (Nat.le_of_ble_eq_true rfl) ?_
  simp only [m_when_within, Oo, Ou, Og, Ci, Om, Of, Ol, Ok]
  repeat' (first | simp only [go_sem, Int.reduceLT, Int.reduceLE, Int.reduceNeg, Int.reduceEq, Nat.reduceAdd, Nat.reduceEqDiff, Nat.reduceLeDiff, Nat.reduceBEq, reduceIte, reduceCtorEq] | (with_reducible first | apply c1 | (first | apply c2 | apply c3) <;> (intro hc; simp only [hc]) | (first | apply c4 | apply c5) <;> (intro hc; rw [hc])))
  all_goals (try (rw [s_bool, Bool.eq_iff_iff]; (try simp only [Bool.and_eq_true, Bool.or_eq_true, Bool.and_eq_false_iff, Bool.or_eq_false_iff, Bool.not_eq_true', Bool.not_eq_false', decide_eq_true_eq, decide_eq_false_iff_not, Bool.true_eq_false, Bool.false_eq_true, iff_true, true_iff, iff_false, false_iff, and_true, true_and, and_false, false_and, ne_eq, Decidable.not_not, not_true_eq_false, not_false_eq_true, Int.natCast_eq_zero] at *); first | done | omega | (simp_all; done) | (simp_all; omega)))
def tameB (w : VWhen) : Bool := decide (0 ≤ w.start) && decide (w.start ≤ 96) && decide (1 ≤ w.len) && decide (w.len ≤ 96)
theorem tame_res (w : VWhen) : res Tryz.prog G0 215 [w.P] = some (B (tameB w)) := by
  refine res_body c_when_tame (Nat.le_of_ble_eq_true rfl) ?_
  simp only [m_when_tame, Oo, Ou, Og, Ci, Om, Of, Ol, Ok]
  repeat' (first | simp only [go_sem, Int.reduceLT, Int.reduceLE, Int.reduceNeg, Int.reduceEq, Nat.reduceAdd, Nat.reduceEqDiff, Nat.reduceLeDiff, Nat.reduceBEq, reduceIte, reduceCtorEq, q_when_within, within_res] | (with_reducible first | apply c1 | (first | apply c2 | apply c3) <;> (intro hc; simp only [hc]) | (first | apply c4 | apply c5) <;> (intro hc; rw [hc])))
  all_goals (try (rw [s_bool, Bool.eq_iff_iff]; (try simp only [Bool.and_eq_true, Bool.or_eq_true, Bool.and_eq_false_iff, Bool.or_eq_false_iff, Bool.not_eq_true', Bool.not_eq_false', decide_eq_true_eq, decide_eq_false_iff_not, Bool.true_eq_false, Bool.false_eq_true, iff_true, true_iff, iff_false, false_iff, and_true, true_and, and_false, false_and, ne_eq, Decidable.not_not, not_true_eq_false, not_false_eq_true, Int.natCast_eq_zero, tameB] at *); first | done | omega | (simp_all; done) | (simp_all; omega)))
def gridB (g : VGrid) : Bool := decide (1 ≤ g.weeks) && decide (g.weeks ≤ 20) && decide (1 ≤ g.days) && decide (g.days ≤ 7) && decide (1 ≤ g.slots) && decide (g.slots ≤ 96)
theorem grid_res (g : VGrid) : res Tryz.prog G0 120 [g.P] = some (B (gridB g)) := by
  refine res_body c_when_RightGrid (Nat.le_of_ble_eq_true rfl) ?_
  simp only [m_when_RightGrid, Oo, Ou, Og, Ci, Om, Of, Ol, Ok]
  repeat' (first | simp only [go_sem, Int.reduceLT, Int.reduceLE, Int.reduceNeg, Int.reduceEq, Nat.reduceAdd, Nat.reduceEqDiff, Nat.reduceLeDiff, Nat.reduceBEq, reduceIte, reduceCtorEq, q_when_within, within_res] | (with_reducible first | apply c1 | (first | apply c2 | apply c3) <;> (intro hc; simp only [hc]) | (first | apply c4 | apply c5) <;> (intro hc; rw [hc])))
  all_goals (try (rw [s_bool, Bool.eq_iff_iff]; (try simp only [Bool.and_eq_true, Bool.or_eq_true, Bool.and_eq_false_iff, Bool.or_eq_false_iff, Bool.not_eq_true', Bool.not_eq_false', decide_eq_true_eq, decide_eq_false_iff_not, Bool.true_eq_false, Bool.false_eq_true, iff_true, true_iff, iff_false, false_iff, and_true, true_and, and_false, false_and, ne_eq, Decidable.not_not, not_true_eq_false, not_false_eq_true, Int.natCast_eq_zero, gridB] at *); first | done | omega | (simp_all; done) | (simp_all; omega)))
theorem rgrid_res (g : VGrid) : res Tryz.prog G0 190 [g.P] = some (B (gridB g)) := by
  refine res_body c_ref09_RightGrid (Nat.le_of_ble_eq_true rfl) ?_
  simp only [m_ref09_RightGrid, Oo, Ou, Og, Ci, Om, Of, Ol, Ok]
  repeat' (first | simp only [go_sem, Int.reduceLT, Int.reduceLE, Int.reduceNeg, Int.reduceEq, Nat.reduceAdd, Nat.reduceEqDiff, Nat.reduceLeDiff, Nat.reduceBEq, reduceIte, reduceCtorEq] | (with_reducible first | apply c1 | (first | apply c2 | apply c3) <;> (intro hc; simp only [hc]) | (first | apply c4 | apply c5) <;> (intro hc; rw [hc])))
  all_goals (try (rw [s_bool, Bool.eq_iff_iff]; (try simp only [Bool.and_eq_true, Bool.or_eq_true, Bool.and_eq_false_iff, Bool.or_eq_false_iff, Bool.not_eq_true', Bool.not_eq_false', decide_eq_true_eq, decide_eq_false_iff_not, Bool.true_eq_false, Bool.false_eq_true, iff_true, true_iff, iff_false, false_iff, and_true, true_and, and_false, false_and, ne_eq, Decidable.not_not, not_true_eq_false, not_false_eq_true, Int.natCast_eq_zero, gridB] at *); first | done | omega | (simp_all; done) | (simp_all; omega)))
def m_ref09_bit : MF := ⟨11, (.seq (.reg none [Oo 4 (.mov (.d (.p (.s (.bool false)))))]) (.seq (.reg none [Om 5 0, Om 6 1, Oo 7 (.cvI .u64 (.t 6)), Oo 8 (.iop .shr (.t 5) (.t 7)), Oo 9 (.iop .rem (.t 8) (.d (.p (.s (.int .u32 2))))), Oo 10 (.iop .eql (.t 9) (.d (.p (.s (.int .u32 1))))), Om 4 10]) .ret)), [.tmp 4]⟩
theorem c_ref09_bit : comp Tryz.prog G0 247 = some m_ref09_bit := by kernel_rfl
theorem q_ref09_bit : Q0 247 := mCall_pure rfl
theorem bit_res (n : Nat) (hn : n < 4294967296) (i : Nat) (hi : i < 64) : res Tryz.prog G0 247 [.s (.int .u32 (n : Int)), I (i : Int)] = some (B (n.testBit i)) := by
  refine res_body c_ref09_bit (Nat.le_of_ble_eq_true rfl) ?_
  simp only [m_ref09_bit, Oo, Ou, Og, Ci, Om, Of, Ol, Ok]
  repeat' (first | simp only [go_sem, Int.reduceLT, Int.reduceLE, Int.reduceNeg, Int.reduceEq, Nat.reduceAdd, Nat.reduceEqDiff, Nat.reduceLeDiff, Nat.reduceBEq, reduceIte, reduceCtorEq, wrap_u64 (show i < 18446744073709551616 by omega)] | (with_reducible first | apply c1 | (first | apply c2 | apply c3) <;> (intro hc; simp only [hc]) | (first | apply c4 | apply c5) <;> (intro hc; rw [hc])))
  rw [← bit_val n i hn]
def m_when_Right : MF := ⟨48, (.seq (.reg none [Oo 2 (.box (.t 0)), Oo 3 (.box (.t 1)), Oo 4 (.mov (.d (.p (.s (.bool false)))))]) (.seq (.seq (.reg none [Oo 5 (.load true 3 (.t 2)), Oo 6 (.call 120 [.t 5]), Oo 7 (.un .not (.t 6)), Om 8 7, Og 9 8 false (.load true 4 (.t 3)), Og 10 8 false (.call 215 [.t 9]), Og 11 8 false (.un .not (.t 10)), Oo 12 (.pick (.t 8) (.d (.p (.s (.bool true)))) (.t 11)), Om 13 12, Og 14 13 false (.fadr 2 (.t 3)), Og 15 13 false (.load false 1 (.t 14)), Og 16 13 false (.fadr 3 (.t 3)), Og 17 13 false (.load false 1 (.t 16)), Og 18 13 false (.iop .add (.t 15) (.t 17)), Og 19 13 false (.fadr 2 (.t 2)), Og 20 13 false (.load false 1 (.t 19)), Og 21 13 false (.iop .gtr (.t 18) (.t 20)), Oo 22 (.pick (.t 13) (.d (.p (.s (.bool true)))) (.t 21))]) (.cond (.t 22) (.seq (.reg none [Oo 4 (.mov (.d (.p (.s (.bool false)))))]) .ret) .skip)) (.seq (.reg none [Of 23 0 3, Ol 24 23, Oo 25 (.iop .neq (.t 24) (.d (.p (.s (.int .u32 0))))), Om 26 25, Og 27 26 true (.fadr 0 (.t 3)), Og 28 26 true (.load false 1 (.t 27)), Og 29 26 true (.fadr 0 (.t 2)), Og 30 26 true (.load false 1 (.t 29)), Og 31 26 true (.iop .shr (.t 28) (.t 30)), Og 32 26 true (.iop .eql (.t 31) (.d (.p (.s (.int .u32 0))))), Oo 33 (.pick (.t 26) (.t 32) (.d (.p (.s (.bool false))))), Om 34 33, Og 35 34 true (.fadr 1 (.t 3)), Og 36 34 true (.load false 1 (.t 35)), Og 37 34 true (.iop .neq (.t 36) (.d (.p (.s (.int .u8 0))))), Oo 38 (.pick (.t 34) (.t 37) (.d (.p (.s (.bool false))))), Om 39 38, Og 40 39 true (.fadr 1 (.t 3)), Og 41 39 true (.load false 1 (.t 40)), Og 42 39 true (.cvI .i64 (.t 41)), Og 43 39 true (.fadr 1 (.t 2)), Og 44 39 true (.load false 1 (.t 43)), Og 45 39 true (.iop .shr (.t 42) (.t 44)), Og 46 39 true (.iop .eql (.t 45) (.d (Ci 0))), Oo 47 (.pick (.t 39) (.t 46) (.d (.p (.s (.bool false))))), Om 4 47]) .ret))), [.tmp 4]⟩
theorem c_when_Right : comp Tryz.prog G0 161 = some m_when_Right := by kernel_rfl
theorem q_when_Right : Q0 161 := mCall_pure rfl
def whenB (g : VGrid) (w : VWhen) : Bool := gridB g && tameB w && decide (w.start + w.len ≤ g.slots) && decide (w.weeks.val ≠ 0) && decide (w.weeks.val / 2 ^ g.weeks.toNat = 0) && decide (w.days.val ≠ 0) && decide (w.days.val / 2 ^ g.days.toNat = 0)
theorem when_res (g : VGrid) (w : VWhen) : res Tryz.prog G0 161 [g.P, w.P] = some (B (whenB g w)) := by
  refine res_body c_when_Right (Nat.le_of_ble_eq_true rfl) ?_
  simp only [m_when_Right, Oo, Ou, Og, Ci, Om, Of, Ol, Ok]
  cases hg : gridB g with
  | false =>
    repeat' (first | simp only [go_sem, Int.reduceLT, Int.reduceLE, Int.reduceNeg, Int.reduceEq, Nat.reduceAdd, Nat.reduceEqDiff, Nat.reduceLeDiff, Nat.reduceBEq, reduceIte, reduceCtorEq, q_when_RightGrid, grid_res, hg] | (with_reducible first | apply c1 | (first | apply c2 | apply c3) <;> (intro hc; simp only [hc]) | (first | apply c4 | apply c5) <;> (intro hc; rw [hc])))
    simp [whenB, hg]
  | true =>
    cases hw : tameB w with
    | false =>
      repeat' (first | simp only [go_sem, Int.reduceLT, Int.reduceLE, Int.reduceNeg, Int.reduceEq, Nat.reduceAdd, Nat.reduceEqDiff, Nat.reduceLeDiff, Nat.reduceBEq, reduceIte, reduceCtorEq, q_when_RightGrid, grid_res, hg, q_when_tame, tame_res, hw] | (with_reducible first | apply c1 | (first | apply c2 | apply c3) <;> (intro hc; simp only [hc]) | (first | apply c4 | apply c5) <;> (intro hc; rw [hc])))
      simp [whenB, hw]
    | true =>
      have hg' := hg
      have hw' := hw
      simp only [gridB, tameB, Bool.and_eq_true, decide_eq_true_eq] at hg' hw'
      repeat' (first | simp only [go_sem, Int.reduceLT, Int.reduceLE, Int.reduceNeg, Int.reduceEq, Nat.reduceAdd, Nat.reduceEqDiff, Nat.reduceLeDiff, Nat.reduceBEq, reduceIte, reduceCtorEq, q_when_RightGrid, grid_res, hg, q_when_tame, tame_res, hw, wrap_id (show -9223372036854775808 ≤ w.start + w.len by omega) (by omega), show ¬ g.weeks < 0 by omega, show ¬ g.days < 0 by omega, Nat.min_eq_left (show g.weeks.toNat ≤ 32 by omega), Nat.min_eq_left (show g.days.toNat ≤ 64 by omega), fdiv_nat, wrap_id (show -9223372036854775808 ≤ (w.days.val : Int) by omega) (by omega)] | (with_reducible first | apply c1 | (first | apply c2 | apply c3) <;> (intro hc; simp only [hc]) | (first | apply c4 | apply c5) <;> (intro hc; rw [hc])))
      all_goals (try (rw [s_bool, Bool.eq_iff_iff]; (try simp only [Bool.and_eq_true, Bool.or_eq_true, Bool.and_eq_false_iff, Bool.or_eq_false_iff, Bool.not_eq_true', Bool.not_eq_false', decide_eq_true_eq, decide_eq_false_iff_not, Bool.true_eq_false, Bool.false_eq_true, iff_true, true_iff, iff_false, false_iff, and_true, true_and, and_false, false_and, ne_eq, Decidable.not_not, not_true_eq_false, not_false_eq_true, Int.natCast_eq_zero, whenB] at *); first | done | omega | (simp_all; done) | (simp_all; omega)))
end Go.Proofs.YtddmnddocbmjnaaGreat.Dv
namespace Go.Proofs.YtddmnddocbmjnaaGreat.Dv
def m_ref09_Right : MF := ⟨68, (.seq (.reg none [Oo 2 (.box (.t 0)), Oo 3 (.box (.t 1)), Oo 4 (.mov (.d (.p (.s (.bool false)))))]) (.seq (.seq (.reg none [Oo 7 (.load true 3 (.t 2)), Oo 8 (.call 190 [.t 7]), Oo 9 (.un .not (.t 8)), Om 10 9, Og 11 10 false (.fadr 0 (.t 3)), Og 12 10 false (.load false 1 (.t 11)), Og 13 10 false (.iop .eql (.t 12) (.d (.p (.s (.int .u32 0))))), Oo 14 (.pick (.t 10) (.d (.p (.s (.bool true)))) (.t 13)), Om 15 14, Og 16 15 false (.fadr 1 (.t 3)), Og 17 15 false (.load false 1 (.t 16)), Og 18 15 false (.iop .eql (.t 17) (.d (.p (.s (.int .u8 0))))), Oo 19 (.pick (.t 15) (.d (.p (.s (.bool true)))) (.t 18)), Om 20 19, Og 21 20 false (.fadr 2 (.t 3)), Og 22 20 false (.load false 1 (.t 21)), Og 23 20 false (.iop .lss (.t 22) (.d (Ci 0))), Oo 24 (.pick (.t 20) (.d (.p (.s (.bool true)))) (.t 23)), Om 25 24, Og 26 25 false (.fadr 3 (.t 3)), Og 27 25 false (.load false 1 (.t 26)), Og 28 25 false (.iop .lss (.t 27) (.d (Ci 1))), Oo 29 (.pick (.t 25) (.d (.p (.s (.bool true)))) (.t 28)), Om 30 29, Og 31 30 false (.fadr 2 (.t 3)), Og 32 30 false (.load false 1 (.t 31)), Og 33 30 false (.fadr 2 (.t 2)), Og 34 30 false (.load false 1 (.t 33)), Og 35 30 false (.iop .gtr (.t 32) (.t 34)), Oo 36 (.pick (.t 30) (.d (.p (.s (.bool true)))) (.t 35)), Om 37 36, Og 38 37 false (.fadr 3 (.t 3)), Og 39 37 false (.load false 1 (.t 38)), Og 40 37 false (.fadr 2 (.t 2)), Og 41 37 false (.load false 1 (.t 40)), Og 42 37 false (.fadr 2 (.t 3)), Og 43 37 false (.load false 1 (.t 42)), Og 44 37 false (.iop .sub (.t 41) (.t 43)), Og 45 37 false (.iop .gtr (.t 39) (.t 44)), Oo 46 (.pick (.t 37) (.d (.p (.s (.bool true)))) (.t 45))]) (.cond (.t 46) (.seq (.reg none [Oo 4 (.mov (.d (.p (.s (.bool false)))))]) .ret) .skip)) (.seq (.seq (.reg none [Of 47 0 2, Ol 48 47, Om 5 48]) (.block 0 (.loop (.seq (.seq (.reg none [Om 49 5, Oo 50 (.iop .lss (.t 49) (.d (Ci 32)))]) (.cond (.t 50) .skip (.exit 0))) (.seq (.block 1 (.seq (.reg none [Of 53 0 3, Ol 54 53, Om 55 5, Oo 56 (.call 247 [.t 54, .t 55])]) (.cond (.t 56) (.seq (.reg none [Oo 4 (.mov (.d (.p (.s (.bool false)))))]) .ret) .skip))) (.reg none [Om 51 5, Oo 52 (.iop .add (.t 51) (.d (Ci 1))), Om 5 52])))))) (.seq (.seq (.reg none [Of 57 1 2, Ol 58 57, Om 6 58]) (.block 2 (.loop (.seq (.seq (.reg none [Om 59 6, Oo 60 (.iop .lss (.t 59) (.d (Ci 8)))]) (.cond (.t 60) .skip (.exit 2))) (.seq (.block 3 (.seq (.reg none [Of 63 1 3, Ol 64 63, Oo 65 (.cvI .u32 (.t 64)), Om 66 6, Oo 67 (.call 247 [.t 65, .t 66])]) (.cond (.t 67) (.seq (.reg none [Oo 4 (.mov (.d (.p (.s (.bool false)))))]) .ret) .skip))) (.reg none [Om 61 6, Oo 62 (.iop .add (.t 61) (.d (Ci 1))), Om 6 62])))))) (.seq (.reg none [Oo 4 (.mov (.d (.p (.s (.bool true)))))]) .ret))))), [.tmp 4]⟩
theorem c_ref09_Right : comp Tryz.prog G0 220 = some m_ref09_Right := by kernel_rfl
theorem q_ref09_Right : Q0 220 := mCall_pure rfl
theorem rwhen_res (g : VGrid) (w : VWhen) : res Tryz.prog G0 220 [g.P, w.P] = some (B (whenB g w)) := by
  refine res_body c_ref09_Right (Nat.le_of_ble_eq_true rfl) ?_
  simp only [m_ref09_Right, Oo, Ou, Og, Ci, Om, Of, Ol, Ok]
  cases hg : gridB g with
  | false =>
    repeat' (first | simp only [go_sem, Int.reduceLT, Int.reduceLE, Int.reduceNeg, Int.reduceEq, Nat.reduceAdd, Nat.reduceEqDiff, Nat.reduceLeDiff, Nat.reduceBEq, reduceIte, reduceCtorEq, q_ref09_RightGrid, rgrid_res, hg] | (with_reducible first | apply c1 | (first | apply c2 | apply c3) <;> (intro hc; simp only [hc]) | (first | apply c4 | apply c5) <;> (intro hc; rw [hc])))
    all_goals (try (rw [s_bool, Bool.eq_iff_iff]; (try simp only [Bool.and_eq_true, Bool.or_eq_true, Bool.and_eq_false_iff, Bool.or_eq_false_iff, Bool.not_eq_true', Bool.not_eq_false', decide_eq_true_eq, decide_eq_false_iff_not, Bool.true_eq_false, Bool.false_eq_true, iff_true, true_iff, iff_false, false_iff, and_true, true_and, and_false, false_and, ne_eq, Decidable.not_not, not_true_eq_false, not_false_eq_true, Int.natCast_eq_zero, whenB, hg] at *); first | done | omega | (simp_all; done) | (simp_all; omega)))
  | true =>
    have hg' := hg
    simp only [gridB, Bool.and_eq_true, decide_eq_true_eq] at hg'
    by_cases hs : 0 ≤ w.start ∧ w.start ≤ g.slots
    · repeat' (first | simp only [go_sem, Int.reduceLT, Int.reduceLE, Int.reduceNeg, Int.reduceEq, Nat.reduceAdd, Nat.reduceEqDiff, Nat.reduceLeDiff, Nat.reduceBEq, reduceIte, reduceCtorEq, q_ref09_RightGrid, rgrid_res, hg, wrap_id (show -9223372036854775808 ≤ g.slots - w.start by omega) (by omega)] | (with_reducible first | apply c1 | (first | apply c2 | apply c3) <;> (intro hc; simp only [hc]) | (first | apply c4 | apply c5) <;> (intro hc; rw [hc])))
      all_goals (try (rw [s_bool, Bool.eq_iff_iff]; (try simp only [Bool.and_eq_true, Bool.or_eq_true, Bool.and_eq_false_iff, Bool.or_eq_false_iff, Bool.not_eq_true', Bool.not_eq_false', decide_eq_true_eq, decide_eq_false_iff_not, Bool.true_eq_false, Bool.false_eq_true, iff_true, true_iff, iff_false, false_iff, and_true, true_and, and_false, false_and, ne_eq, Decidable.not_not, not_true_eq_false, not_false_eq_true, Int.natCast_eq_zero, whenB, tameB] at *); first | done | omega | (simp_all; done) | (simp_all; omega)))
      refine X_for 5 32 (fun i s => s.h.get 0 = some (.cells (DV.cells (.p g.P)) false) ∧ s.h.get 1 = some (.cells (DV.cells (.p w.P)) false) ∧ ∀ j, g.weeks.toNat ≤ j → j < i → w.weeks.val.testBit j = false) g.weeks.toNat (by decide) ?_ (by omega) ⟨by simp only [go_sem, Int.reduceLT, Int.reduceLE, Int.reduceNeg, Int.reduceEq, Nat.reduceAdd, Nat.reduceEqDiff, Nat.reduceLeDiff, Nat.reduceBEq, reduceIte, reduceCtorEq], by simp only [go_sem, Int.reduceLT, Int.reduceLE, Int.reduceNeg, Int.reduceEq, Nat.reduceAdd, Nat.reduceEqDiff, Nat.reduceLeDiff, Nat.reduceBEq, reduceIte, reduceCtorEq], fun j h1 h2 => by omega⟩ ?_
      · simp only [go_sem, Int.reduceLT, Int.reduceLE, Int.reduceNeg, Int.reduceEq, Nat.reduceAdd, Nat.reduceEqDiff, Nat.reduceLeDiff, Nat.reduceBEq, reduceIte, reduceCtorEq]; rw [Int.toNat_of_nonneg (by omega)]
      intro i t h nx hf hi0 hi h5 hj
      obtain ⟨hh0, hh1, hj⟩ := hj
      dsimp only at hh0 hh1
      have h2 := hf 2 rfl; simp only [PT.get_set, Nat.reduceEqDiff, if_true, if_false, reduceIte, PT.get_leaf] at h2; have h3 := hf 3 rfl; simp only [PT.get_set, Nat.reduceEqDiff, if_true, if_false, reduceIte, PT.get_leaf] at h3
      have h3' := h3
      have hcs := hc
      repeat' (first | simp only [go_sem, Int.reduceLT, Int.reduceLE, Int.reduceNeg, Int.reduceEq, Nat.reduceAdd, Nat.reduceEqDiff, Nat.reduceLeDiff, Nat.reduceBEq, reduceIte, reduceCtorEq, h2, h3, h5, hh0, hh1, q_ref09_bit, bit_res w.weeks.val w.weeks.isLt i (by omega)] | (with_reducible first | apply c1 | (first | apply c2 | apply c3) <;> (intro hc; simp only [hc]) | (first | apply c4 | apply c5) <;> (intro hc; rw [hc])))
      · rename_i hc0
        have hn : ¬ w.weeks.val / 2 ^ g.weeks.toNat = 0 := fun h0 => by
          have := (bits_none (m := 32) (by exact w.weeks.isLt)).2 h0 i hi0 (by simp at hc0; omega)
          rw [this] at hc
          cases hc
        simp [whenB, hn]
      · rename_i hc0
        refine ⟨by simp at hc0; omega, fun j h1 h2 => ?_⟩
        by_cases hji : j = i
        · rw [hji]; exact hc
        · exact hj j h1 (by omega)
      · have hn : w.weeks.val / 2 ^ g.weeks.toNat = 0 := (bits_none (m := 32) (by exact w.weeks.isLt)).1 fun j h1 h2 => hj j h1 (by simp at hc; omega)
        clear hf hj
        refine X_for 6 8 (fun i s => s.h.get 1 = some (.cells (DV.cells (.p w.P)) false) ∧ ∀ j, g.days.toNat ≤ j → j < i → w.days.val.testBit j = false) g.days.toNat (by decide) ?_ (by omega) ⟨by simp only [go_sem, Int.reduceLT, Int.reduceLE, Int.reduceNeg, Int.reduceEq, Nat.reduceAdd, Nat.reduceEqDiff, Nat.reduceLeDiff, Nat.reduceBEq, reduceIte, reduceCtorEq, hh1], fun j h1 h2 => by omega⟩ ?_
        · simp only [go_sem, Int.reduceLT, Int.reduceLE, Int.reduceNeg, Int.reduceEq, Nat.reduceAdd, Nat.reduceEqDiff, Nat.reduceLeDiff, Nat.reduceBEq, reduceIte, reduceCtorEq]; rw [Int.toNat_of_nonneg (by omega)]
        intro i t h nx hf hi0 hi h6 hj
        obtain ⟨hh1, hj⟩ := hj
        dsimp only at hh1
        have h3 := hf 3 rfl
        simp only [go_sem, Int.reduceLT, Int.reduceLE, Int.reduceNeg, Int.reduceEq, Nat.reduceAdd, Nat.reduceEqDiff, Nat.reduceLeDiff, Nat.reduceBEq, reduceIte, reduceCtorEq, h3'] at h3
        repeat' (first | simp only [go_sem, Int.reduceLT, Int.reduceLE, Int.reduceNeg, Int.reduceEq, Nat.reduceAdd, Nat.reduceEqDiff, Nat.reduceLeDiff, Nat.reduceBEq, reduceIte, reduceCtorEq, h3, h6, hh1, q_ref09_bit, wrap_u32 (show w.days.val < 4294967296 by omega), bit_res w.days.val (by omega) i (by omega)] | (with_reducible first | apply c1 | (first | apply c2 | apply c3) <;> (intro hc; simp only [hc]) | (first | apply c4 | apply c5) <;> (intro hc; rw [hc])))
        · rename_i hc0
          have hd : ¬ w.days.val / 2 ^ g.days.toNat = 0 := fun h0 => by
            have := (bits_none (m := 8) (by exact w.days.isLt)).2 h0 i hi0 (by simp at hc0; omega)
            rw [this] at hc
            cases hc
          simp [whenB, hd]
        · rename_i hc0
          refine ⟨by simp at hc0; omega, fun j h1 h2 => ?_⟩
          by_cases hji : j = i
          · rw [hji]; exact hc
          · exact hj j h1 (by omega)
        · have hd : w.days.val / 2 ^ g.days.toNat = 0 := (bits_none (m := 8) (by exact w.days.isLt)).1 fun j h1 h2 => hj j h1 (by simp at hc; omega)
          all_goals (try (rw [s_bool, Bool.eq_iff_iff]; (try simp only [Bool.and_eq_true, Bool.or_eq_true, Bool.and_eq_false_iff, Bool.or_eq_false_iff, Bool.not_eq_true', Bool.not_eq_false', decide_eq_true_eq, decide_eq_false_iff_not, Bool.true_eq_false, Bool.false_eq_true, iff_true, true_iff, iff_false, false_iff, and_true, true_and, and_false, false_and, ne_eq, Decidable.not_not, not_true_eq_false, not_false_eq_true, Int.natCast_eq_zero, whenB, tameB] at *); first | done | omega | (simp_all; done) | (simp_all; omega)))
    · by_cases hs0 : w.start < 0
      · repeat' (first | simp only [go_sem, Int.reduceLT, Int.reduceLE, Int.reduceNeg, Int.reduceEq, Nat.reduceAdd, Nat.reduceEqDiff, Nat.reduceLeDiff, Nat.reduceBEq, reduceIte, reduceCtorEq, q_ref09_RightGrid, rgrid_res, hg, show decide (w.start < 0) = true by simpa using hs0] | (with_reducible first | apply c1 | (first | apply c2 | apply c3) <;> (intro hc; simp only [hc]) | (first | apply c4 | apply c5) <;> (intro hc; rw [hc])))
        all_goals (try (rw [s_bool, Bool.eq_iff_iff]; (try simp only [Bool.and_eq_true, Bool.or_eq_true, Bool.and_eq_false_iff, Bool.or_eq_false_iff, Bool.not_eq_true', Bool.not_eq_false', decide_eq_true_eq, decide_eq_false_iff_not, Bool.true_eq_false, Bool.false_eq_true, iff_true, true_iff, iff_false, false_iff, and_true, true_and, and_false, false_and, ne_eq, Decidable.not_not, not_true_eq_false, not_false_eq_true, Int.natCast_eq_zero, whenB, tameB] at *); first | done | omega | (simp_all; done) | (simp_all; omega)))
      · repeat' (first | simp only [go_sem, Int.reduceLT, Int.reduceLE, Int.reduceNeg, Int.reduceEq, Nat.reduceAdd, Nat.reduceEqDiff, Nat.reduceLeDiff, Nat.reduceBEq, reduceIte, reduceCtorEq, q_ref09_RightGrid, rgrid_res, hg, show decide (w.start < 0) = false by simpa using hs0, show decide (g.slots < w.start) = true by (simp; omega)] | (with_reducible first | apply c1 | (first | apply c2 | apply c3) <;> (intro hc; simp only [hc]) | (first | apply c4 | apply c5) <;> (intro hc; rw [hc])))
        all_goals (try (rw [s_bool, Bool.eq_iff_iff]; (try simp only [Bool.and_eq_true, Bool.or_eq_true, Bool.and_eq_false_iff, Bool.or_eq_false_iff, Bool.not_eq_true', Bool.not_eq_false', decide_eq_true_eq, decide_eq_false_iff_not, Bool.true_eq_false, Bool.false_eq_true, iff_true, true_iff, iff_false, false_iff, and_true, true_and, and_false, false_and, ne_eq, Decidable.not_not, not_true_eq_false, not_false_eq_true, Int.natCast_eq_zero, whenB, tameB] at *); first | done | omega | (simp_all; done) | (simp_all; omega)))
end Go.Proofs.YtddmnddocbmjnaaGreat.Dv
namespace Go.Proofs.YtddmnddocbmjnaaGreat.Dv
end Go.Proofs.YtddmnddocbmjnaaGreat.Dv
namespace Go.Proofs.YtddmnddocbmjnaaGreat.Dv
def m_room_Name : MF := ⟨10, (.seq (.reg none [Oo 2 (.mov (.d (.p (.s (.bool false)))))]) (.seq (.reg none [Om 3 0, Oo 4 (.sop .neq (.t 3) (.d (.p (.s (.string ⟨#[]⟩))))), Om 5 4, Og 6 5 true (.mov (.t 0)), Og 7 5 true (.lenS (.t 6)), Og 8 5 true (.iop .leq (.t 7) (.d (Ci 24))), Oo 9 (.pick (.t 5) (.t 8) (.d (.p (.s (.bool false))))), Om 2 9]) .ret)), [.tmp 2]⟩
theorem c_room_Name : comp Tryz.prog G0 119 = some m_room_Name := by kernel_rfl
theorem q_room_Name : Q0 119 := mCall_pure rfl
def m_ref11_Name : MF := ⟨11, (.seq (.reg none [Oo 2 (.mov (.d (.p (.s (.bool false)))))]) (.seq (.reg none [Om 3 0, Oo 4 (.lenS (.t 3)), Oo 5 (.iop .geq (.t 4) (.d (Ci 1))), Om 6 5, Og 7 6 true (.mov (.t 0)), Og 8 6 true (.lenS (.t 7)), Og 9 6 true (.iop .leq (.t 8) (.d (Ci 24))), Oo 10 (.pick (.t 6) (.t 9) (.d (.p (.s (.bool false))))), Om 2 10]) .ret)), [.tmp 2]⟩
theorem c_ref11_Name : comp Tryz.prog G0 189 = some m_ref11_Name := by kernel_rfl
theorem q_ref11_Name : Q0 189 := mCall_pure rfl
def nameB (s : ByteArray) : Bool := decide (1 ≤ s.size) && decide (s.size ≤ 24)
theorem name_res (s : ByteArray) : res Tryz.prog G0 119 [.s (.string s)] = some (B (nameB s)) := by
  refine res_body c_room_Name (Nat.le_of_ble_eq_true rfl) ?_
  simp only [m_room_Name, Oo, Ou, Og, Ci, Om, Of, Ol, Ok]
  have he : (decide (s.toList = ByteArray.toList ⟨#[]⟩)) = decide (s.size = 0) := by
    have e1 : s.toList = s.data.toList := by rw [ByteArray.toList_eq]
    have e2 : ByteArray.toList ⟨#[]⟩ = [] := by rw [ByteArray.toList_eq]
    rw [e1, e2]
    have e3 : s.size = s.data.toList.length := rfl
    rw [e3]
    cases s.data.toList with
    | nil => simp
    | cons x l => simp
  repeat' (first | simp only [go_sem, Int.reduceLT, Int.reduceLE, Int.reduceNeg, Int.reduceEq, Nat.reduceAdd, Nat.reduceEqDiff, Nat.reduceLeDiff, Nat.reduceBEq, reduceIte, reduceCtorEq, he] | (with_reducible first | apply c1 | (first | apply c2 | apply c3) <;> (intro hc; simp only [hc]) | (first | apply c4 | apply c5) <;> (intro hc; rw [hc])))
  all_goals (try (rw [s_bool, Bool.eq_iff_iff]; (try simp only [Bool.and_eq_true, Bool.or_eq_true, Bool.and_eq_false_iff, Bool.or_eq_false_iff, Bool.not_eq_true', Bool.not_eq_false', decide_eq_true_eq, decide_eq_false_iff_not, Bool.true_eq_false, Bool.false_eq_true, iff_true, true_iff, iff_false, false_iff, and_true, true_and, and_false, false_and, ne_eq, Decidable.not_not, not_true_eq_false, not_false_eq_true, Int.natCast_eq_zero, nameB] at *); first | done | omega | (simp_all; done) | (simp_all; omega)))
theorem rname_res (s : ByteArray) : res Tryz.prog G0 189 [.s (.string s)] = some (B (nameB s)) := by
  refine res_body c_ref11_Name (Nat.le_of_ble_eq_true rfl) ?_
  simp only [m_ref11_Name, Oo, Ou, Og, Ci, Om, Of, Ol, Ok]
  repeat' (first | simp only [go_sem, Int.reduceLT, Int.reduceLE, Int.reduceNeg, Int.reduceEq, Nat.reduceAdd, Nat.reduceEqDiff, Nat.reduceLeDiff, Nat.reduceBEq, reduceIte, reduceCtorEq] | (with_reducible first | apply c1 | (first | apply c2 | apply c3) <;> (intro hc; simp only [hc]) | (first | apply c4 | apply c5) <;> (intro hc; rw [hc])))
  all_goals (try (rw [s_bool, Bool.eq_iff_iff]; (try simp only [Bool.and_eq_true, Bool.or_eq_true, Bool.and_eq_false_iff, Bool.or_eq_false_iff, Bool.not_eq_true', Bool.not_eq_false', decide_eq_true_eq, decide_eq_false_iff_not, Bool.true_eq_false, Bool.false_eq_true, iff_true, true_iff, iff_false, false_iff, and_true, true_and, and_false, false_and, ne_eq, Decidable.not_not, not_true_eq_false, not_false_eq_true, Int.natCast_eq_zero, nameB] at *); first | done | omega | (simp_all; done) | (simp_all; omega)))
end Go.Proofs.YtddmnddocbmjnaaGreat.Dv
