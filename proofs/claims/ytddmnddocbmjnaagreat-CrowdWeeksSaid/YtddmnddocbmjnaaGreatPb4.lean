/- Part 4 of the proof: CrowdWeeks: whatever plain data comes in, the call returns true and leaves its arguments as they were. No condition. -/
import Derived.Test.YtddmnddocbmjnaaGreatPb3
import Derived.Calls
set_option linter.all false
set_option linter.unusedVariables false
set_option linter.unusedSectionVars false
set_option linter.unusedSimpArgs false
namespace Go.Proofs.YtddmnddocbmjnaaGreat.Dv
open Go.RowKit
section
variable {P : Program} {ρ : Rho} {w : World} {h : PT AObj}
theorem Inv.drew1 (inv : Inv ρ w h) : Inv ρ w.drew h := inv.same ⟨rfl, rfl, rfl, Nat.le_refl _, fun _ _ _ => rfl, fun _ _ _ => rfl, fun _ _ _ h => h, fun _ h => h, fun _ _ => ⟨rfl, rfl, rfl⟩, fun _ _ _ h => ⟨h, rfl⟩, rfl, Nat.le_add_right _ _⟩ (fun _ _ => rfl)
theorem Stp.drew1 (ρ : Rho) (w : World) (h : PT AObj) : Stp ρ w h ρ w.drew h := ⟨rfl, rfl, rfl, Nat.le_refl _, fun _ _ _ => rfl, fun _ _ _ => rfl, fun _ _ _ h => h, fun _ h => h, fun _ _ => ⟨rfl, rfl, rfl⟩, fun _ _ _ h => ⟨h, rfl⟩, rfl, Nat.le_add_right _ _⟩
theorem tip_list (inv : Inv ρ w h) {id : Nat} (hid : ¬ ρ.al id) {k n c : Nat} {L : List PDV} {vs : List Value} (T : TypeId) (arr : Array Value) (ha : ∀ (j : Nat) (v : Value), vs[j]? = some v → arr[j]? = some v) (hvl : vs.length = n * k) (hL : L.length = n) (hn : n ≤ c) (hca : c * k ≤ arr.size)
    (hb : ∀ (F' : Addr → Value → Prop), (∀ a v, Fx w (Wf h ρ) a v → F' a v) → (∀ (j : Nat) (v : Value), vs[j]? = some v → F' ((⟨w.heap.size, 0, none⟩ : Addr).add (0 + j)) v) → PRepE F' k (some ⟨w.heap.size, 0, none⟩) 0 L) :
    ∃ ρ', Stp ρ w h ρ' (w.alloc (.cells arr T)) (h.set id (some (.tip k))) ∧ Inv ρ' (w.alloc (.cells arr T)) (h.set id (some (.tip k))) ∧
      DR (w.alloc (.cells arr T)) (h.set id (some (.tip k))) ρ' (.ow id L) (.slice (some ⟨w.heap.size, 0, none⟩) n c) ∧ ∀ i, ρ'.al i → ρ.al i ∨ i = id := by
  obtain ⟨s, i2⟩ := new_tip inv hid T arr (n * k) k
  have hF : ∀ (j : Nat) (v : Value), vs[j]? = some v → Fx (w.alloc (.cells arr T)) (Wf (h.set id (some (.tip k))) (ρ.add id w.heap.size 0 arr.size (n * k))) ((⟨w.heap.size, 0, none⟩ : Addr).add (0 + j)) v := by
    intro j v hj
    rw [add_lit0]
    refine ⟨by simp, ?_, ?_⟩
    · have := heap_new w (.cells arr T)
      simp only [World.cell?, this]
      simpa using ha j v hj
    · rintro (hfr | ⟨i, ob, hi, hb, hw⟩)
      · exact absurd (inv.fb _ _ hfr) (Nat.lt_irrefl _)
      by_cases e : id = i
      · subst e
        rw [PT.get_set_same] at hi
        injection hi with hi
        subst hi
        simp only [Rho.add_st, Rho.add_ext] at hw
        have := (List.getElem?_eq_some_iff.1 hj).1
        omega
      · rw [PT.get_set_ne _ _ e] at hi
        obtain ⟨e1, _⟩ := Rho.add_old (ρ := ρ) w.heap.size 0 arr.size (n * k) (Ne.symm e)
        rw [e1] at hb
        have := (inv.obj i ob hi).2.1
        simp at hb
        omega
  have hel := hb _ s.fx hF
  refine ⟨_, s, i2, ?_, al_add _ _ _ _ _ _⟩
  simp only [DRep, Rho.add_blk, Rho.add_st, Rho.add_cap, Rho.add_ext]
  refine ⟨Rho.add_al .., ?_, fun k' hk => ?_⟩
  · simp only [PRep]
    exact ⟨some ⟨w.heap.size, 0, none⟩, c, k, by rw [hL], by rw [hL]; exact hn, (fun e => by cases e), hel⟩
  · unfold Tp at hk
    rw [PT.get_set_same] at hk
    injection hk with hk
    injection hk with hk
    subst hk
    exact ⟨c, by rw [hL], by rw [hL]; exact hn, hel, by rw [hL], hca⟩
theorem grown_size {z : Value} {k c m : Nat} (hk : z.cells.size = k) (olds news : List Value) (hl : olds.length + news.length = m * k) (hm : m ≤ c) : c * k ≤ (olds.toArray ++ news.toArray ++ Builtin.zeroCells z.cells (c - m)).size := by
  simp only [Array.size_append, List.size_toArray, size_zeroCells, hk]
  have : c * k = m * k + (c - m) * k := by rw [← Nat.add_mul]; congr 1; omega
  omega
theorem grown_get (olds news : List Value) (r : Array Value) (j : Nat) (v : Value) (hj : (olds ++ news)[j]? = some v) : (olds.toArray ++ news.toArray ++ r)[j]? = some v := by
  rw [← Array.getElem?_toList]
  simp only [Array.toList_append, List.append_assoc]
  rw [← List.append_assoc, List.getElem?_append_left (List.getElem?_eq_some_iff.1 hj).1]
  exact hj
theorem keep_run {t tx e : TypeId} {i : TypeInfo} {z : Value} (ht : P.underlying t = some (.slice e)) (hi : P.info? e = some i) (hz : i.zero = some z) {x : Value} {news : List Value} (hs : SrcR P tx i z x 0 news w) (hnews : news = []) (ts : List TypeId) (ty : TypeId) (xs : List Value)
    {base : Option Addr} {sLen sCap : Nat} (hle : sLen ≤ sCap) : (Builtin.append_ (t :: tx :: ts).toArray ty (.slice base sLen sCap :: x :: xs).toArray).run P w = .ok (.slice base sLen sCap) w := by
  subst hnews
  have := app_room ht hi hz hs ts ty xs (base := base) (sLen := sLen) (sCap := sCap) (by omega) (w' := w) (fun a _ => by simp [storeCells]) (fun _ => rfl)
  simpa using this
theorem app_ok (inv : Inv ρ w h) {id : Nat} (hid : ¬ ρ.al id) {ar : Bool} {ts : List TypeId} {a x : DV} {e : Eff} (hd : app P ar ts a x h id = some e) {va vx : Value} (ha : DR w h ρ a va) (hx : DR w h ρ x vx) (ty : TypeId) (xs : List Value) :
    VOK P (Builtin.append_ ts.toArray ty (va :: vx :: xs).toArray) ρ w h id e := by
  unfold app at hd
  split at hd
  · rename_i t tx ts'
    split at hd
    · rename_i el hel
      split at hd
      · rename_i es by_ hes hby
        split at hd
        · rename_i hzl
          obtain ⟨hzl, hby0⟩ := hzl
          have ht := elT_run hel
          obtain ⟨hsz, hpos⟩ := esT_run hes
          obtain ⟨zd, hzd, hzl⟩ : ∃ zd, zeroT P el = some zd ∧ zd.length = esK es := by
            cases hq : zeroT P el with
            | none => rw [hq] at hzl; cases hzl
            | some zd => rw [hq] at hzl; exact ⟨zd, rfl, by simpa using hzl⟩
          obtain ⟨i, z, hi, hz, _, hzr⟩ := zeroT_ok hzd
          obtain ⟨i', hi', hie⟩ := info_of hsz
          rw [hi] at hi'
          cases hi'
          have hb := byT_of hi hby
          have hzs : z.cells.size = esK es := by
            have := (hzr (F := fun _ _ => True) (ρ := ρ) (T := fun _ _ => True)).len
            rw [hzl] at this
            simpa using this
          split at hd
          · cases hd
          · rename_i cs n rd hmore
            obtain ⟨vs, hcs, hvl, hsrc⟩ := more_ok inv hi hz hzd hzr hzl hie hpos hb hmore hx
            simp only at hcs hvl hsrc
            have nil0 : n = 0 → vs = [] := fun h0 => List.eq_nil_of_length_eq_zero (by rw [hvl, h0]; simp)
            have clen : cs.length = n * esK es := by rw [← hcs.len, hvl]
            have keep : ∀ (base : Option Addr) (sLen sCap : Nat), va = .slice base sLen sCap → sLen ≤ sCap → n = 0 → VOK P (Builtin.append_ (t :: tx :: ts').toArray ty (va :: vx :: xs).toArray) ρ w h id { dv := a, rd := rd } := by
              intro base sLen sCap e1 hle h0
              subst e1
              subst h0
              exact VOK.pure inv (keep_run ht hi hz hsrc (nil0 rfl) ts' ty xs hle) ha rfl
            have zero : ∀ (base : Option Addr), va = .slice base 0 0 → ¬ n = 0 → n * by_ ≤ 70368744177664 → VOK P (Builtin.append_ (t :: tx :: ts').toArray ty (va :: vx :: xs).toArray) ρ w h id (fresh ar es n cs id rd) := by
              intro base e1 h0 hfit
              subst e1
              have hn63 : n ≤ 9223372036854775807 := by
                have := Nat.le_mul_of_pos_right n hby0
                omega
              have run := app_grow ht hi hz hsrc ts' ty xs (base := base) (sLen := 0) (sCap := 0) (by omega) (by rw [hb]; simpa using hfit) (by simpa using hn63) (olds := []) (by cases base <;> simp [Builtin.firstCells, loadCells, loadCellsFrom])
              have hge := grownCap_ge w (0 + n) 0 el
              obtain ⟨ρ', s, i2, hdr, hal⟩ := fresh_ok inv.drew1 hid ar hpos ((Stp.drew1 ρ w h).drl hcs) clen rd el (([] : List Value).toArray ++ vs.toArray ++ Builtin.zeroCells z.cells (grownCap w (0 + n) 0 el - (0 + n))) (fun j v hj => grown_get [] vs _ j v (by simpa using hj)) (c := grownCap w (0 + n) 0 el) (by omega) (grown_size hzs [] vs (by simp [hvl]) hge)
              refine ⟨_, _, ρ', run, (Stp.drew1 ρ w h).trans s, i2, by simpa using hdr, hal⟩
            split at hd
            · simp only [DRep] at ha
              split at hd
              · rename_i h0; cases hd; exact keep none 0 0 ha (Nat.le_refl _) h0
              · rename_i h0
                split at hd
                · rename_i hfit; cases hd; exact zero none ha h0 hfit
                · cases hd
            · have ha' := ha
              simp only [DRep] at ha'
              obtain ⟨b, hab⟩ := ha'
              split at hd
              · rename_i h0; cases hd; exact keep b 0 0 hab (Nat.le_refl _) h0
              · rename_i h0
                split at hd
                · rename_i hfit; cases hd; exact zero b hab h0 hfit
                · cases hd
            · rename_i j l
              have ha' := ha
              simp only [DRep] at ha'
              obtain ⟨hal, hp, htip⟩ := ha'
              split at hd
              · rename_i h0
                cases hd
                simp only [PRep] at hp
                obtain ⟨b, c, sz, e1, e2, _⟩ := hp
                exact keep b _ c e1 e2 h0
              · rename_i h0
                split at hd
                · rename_i k ps hj hps
                  split at hd
                  · rename_i hc
                    obtain ⟨hfit, rfl⟩ := hc
                    cases hd
                    have := plainL_some hps
                    subst this
                    have hpr := PRepL.of_p hcs
                    have hplen : ps.length = n * esK es := by simpa using clen
                    obtain ⟨c, rfl, hlc, hel', hext, hcap⟩ := htip _ hj
                    have hjid : j ≠ id := fun e => hid (e ▸ hal)
                    obtain ⟨_, hbl, arr, T, hg, hsize⟩ := inv.obj j _ hj
                    have hn63 : l.length + n ≤ 9223372036854775807 := by
                      have := Nat.le_mul_of_pos_right (l.length + n) hby0
                      omega
                    by_cases hroom : l.length + n ≤ c
                    · have hm1 : (l.length + n) * esK es ≤ c * esK es := Nat.mul_le_mul_right _ hroom
                      have hm2 : (l.length + n) * esK es = l.length * esK es + n * esK es := Nat.add_mul _ _ _
                      have hfitb : ρ.st j + l.length * esK es + 0 + vs.length ≤ arr.size := by omega
                      have hst := run_storeCells_at P (ρ.blk j) (ρ.st j + l.length * esK es) T vs 0 arr w hg hfitb (scal_of hcs)
                      rw [setRow_shape] at hst
                      have run := app_room ht hi hz hsrc ts' ty xs (base := some ⟨ρ.blk j, ρ.st j, none⟩) (sLen := l.length) (sCap := c) hroom (w' := w.setRow (ρ.blk j) (setAt arr.toList (ρ.st j + l.length * esK es) vs).toArray) (fun a e => by cases e; rw [add_lit0, hie]; exact hst) (fun e => by cases e)
                      have hsz : ((setAt arr.toList (ρ.st j + l.length * esK es) vs).toArray).size = arr.size := by
                        simp only [List.size_toArray]
                        rw [setAt_len _ _ _ (by simpa using hfitb)]
                        simp
                      have wrj : ∀ o, ρ.st j + ρ.ext j ≤ o → Wr h ρ (ρ.blk j) o := fun o ho => ⟨j, _, hj, rfl, ho⟩
                      obtain ⟨s, i2⟩ := adopt_ok inv hid hjid hj (ob' := .tip (esK es)) hg hsz (ρ.st j) (ρ.cap j) ((l.length + n) * esK es) ⟨_, wrj _ (Nat.le_refl _)⟩ (fun o hno => by
                          have hlt : o < ρ.st j + ρ.ext j := Nat.lt_of_not_le fun hle => hno (wrj o hle)
                          simp only [List.getElem?_toArray]
                          rw [setAt_get _ _ _ (by simp; omega), if_pos (by omega)]
                          simp) (fun o ho => wrj o (by simp only at ho; omega)) (fun s => by
                          simp only [OR, Rho.add_blk, Rho.add_st, Rho.add_cap]
                          exact ⟨_, T, setRow_heap w _ arr _ T _ hg, by rw [hsz, hsize]⟩)
                      have hF : ∀ (q : Nat) (v : Value), vs[q]? = some v → Fx (w.setRow (ρ.blk j) (setAt arr.toList (ρ.st j + l.length * esK es) vs).toArray) (Wf ((h.set j none).set id (some (.tip (esK es)))) (ρ.add id (ρ.blk j) (ρ.st j) (ρ.cap j) ((l.length + n) * esK es))) ((⟨ρ.blk j, ρ.st j, none⟩ : Addr).add (0 + l.length * esK es + q)) v := by
                        intro q v hq
                        have hql := (List.getElem?_eq_some_iff.1 hq).1
                        rw [add_lit0]
                        refine ⟨by simpa using hbl, ?_, ?_⟩
                        · have := setRow_heap w _ arr (setAt arr.toList (ρ.st j + l.length * esK es) vs).toArray T _ hg
                          simp only [World.cell?, this, Option.isSome_none, Bool.false_eq_true, if_false, List.getElem?_toArray]
                          rw [setAt_get _ _ _ (by simp; omega), if_neg (by omega), if_pos (by omega), show ρ.st j + (0 + l.length * esK es + q) - (ρ.st j + l.length * esK es) = q by omega]
                          exact hq
                        · rintro (hfr | ⟨i', ob, hi', hb', hw'⟩)
                          · exact inv.fd j _ _ hj hfr
                          by_cases e : id = i'
                          · subst e
                            rw [PT.get_set_same] at hi'
                            injection hi' with hi'
                            subst hi'
                            simp only [Rho.add_st, Rho.add_ext] at hw'
                            omega
                          · rw [PT.get_set_ne _ _ e, PT.get_set] at hi'
                            split at hi'
                            · cases hi'
                            · rename_i hji
                              obtain ⟨e1, _⟩ := Rho.add_old (ρ := ρ) (ρ.blk j) (ρ.st j) (ρ.cap j) ((l.length + n) * esK es) (Ne.symm e)
                              rw [e1] at hb'
                              exact hji (inv.inj i' j _ _ hi' hj hb').symm
                      have hnew := elems_ok hpos n (o := 0 + l.length * esK es) (ad := ⟨ρ.blk j, ρ.st j, none⟩) (PRepL.mono s.fx _ _ hpr) hplen hF
                      have hall := PRepE.append (PRepE.mono s.fx _ _ _ _ hel') hnew.1
                      have hllen : (l ++ elems es n ps).length = l.length + n := by simp [hnew.2]
                      refine ⟨_, _, _, run, s, i2, ?_, al_add _ _ _ _ _ _⟩
                      simp only [applyUp, DRep, Rho.add_blk, Rho.add_st, Rho.add_cap, Rho.add_ext]
                      refine ⟨Rho.add_al .., ?_, fun k' hk => ?_⟩
                      · simp only [PRep]
                        exact ⟨some ⟨ρ.blk j, ρ.st j, none⟩, c, esK es, by rw [hllen], by rw [hllen]; exact hroom, (fun e => by cases e), hall⟩
                      · unfold Tp at hk
                        rw [PT.get_set_same] at hk
                        injection hk with hk
                        injection hk with hk
                        subst hk
                        exact ⟨c, by rw [hllen], by rw [hllen]; exact hroom, hall, by rw [hllen], hcap⟩
                    · obtain ⟨ovs, ol1, ol2, ol3, ol4⟩ := hel'.flat2
                      have run := app_grow ht hi hz hsrc ts' ty xs (base := some ⟨ρ.blk j, ρ.st j, none⟩) (sLen := l.length) (sCap := c) (by omega) (by rw [hb]; exact hfit) hn63 (olds := ovs) (by
                        rw [hie]
                        refine first_some ol1 (fun q v hq => ?_)
                        rw [cell_heap (w := w) (W := w.drew) rfl]
                        have := (ol3 q v hq).2.1
                        simpa using this)
                      have hge := grownCap_ge w (l.length + n) c el
                      obtain ⟨s1, i1⟩ := drop_ok inv j
                      have hll : ovs.length + vs.length = (l.length + n) * esK es := by rw [ol1, hvl, Nat.add_mul]
                      have hllen : (l ++ elems es n ps).length = l.length + n := by
                        have : (elems es n ps).length = n := (elems_ok (F := fun _ _ => True) hpos n (o := 0) (ad := ⟨0, 0, none⟩) (PRepL.mono (fun _ _ _ => trivial) _ _ hpr) hplen (fun _ _ _ => trivial)).2
                        simp [this]
                      obtain ⟨ρ', s2, i2, hdr, hal2⟩ := tip_list i1.drew1 hid (k := esK es) (n := l.length + n) (c := grownCap w (l.length + n) c el) (L := l ++ elems es n ps) (vs := ovs ++ vs) el (ovs.toArray ++ vs.toArray ++ Builtin.zeroCells z.cells (grownCap w (l.length + n) c el - (l.length + n))) (fun q v hq => grown_get ovs vs _ q v hq) (by simpa using hll) hllen hge (grown_size hzs ovs vs hll hge) (fun F' hm hF => by
                        have hm' : ∀ a v, Fx w (Wf h ρ) a v → F' a v := fun a v hf => hm a v ((s1.trans (Stp.drew1 _ _ _)).fx a v hf)
                        refine PRepE.append (ol4 F' _ 0 hm' (fun q v hq => hF q v (by rw [List.getElem?_append_left (List.getElem?_eq_some_iff.1 hq).1]; exact hq))) ?_
                        refine (elems_ok hpos n (PRepL.mono hm' _ _ hpr) hplen (fun q v hq => ?_)).1
                        have := hF (ovs.length + q) v (by rw [List.getElem?_append_right (by omega)]; simpa using hq)
                        rwa [ol1, ← Nat.add_assoc] at this)
                      exact ⟨_, _, ρ', run, (s1.trans (Stp.drew1 _ _ _)).trans s2, i2, hdr, hal2⟩
                  · cases hd
                · cases hd
            · rename_i j off len av es'
              split at hd
              · rename_i hes'
                subst hes'
                split at hd
                · rename_i c ho
                  have ha' := ha
                  simp only [DRep] at ha'
                  obtain ⟨hal, cc, rfl, hla, hac, hcap⟩ := ha'
                  obtain ⟨_, arr, T, ovs, hg, hsize, hov, harr, hcell⟩ := obj_cells inv ho
                  have hjid : j ≠ id := fun e => hid (e ▸ hal)
                  have hovl : ovs.length = c.length := hov.len
                  have hocap : ovs.length ≤ ρ.cap j := by
                    by_cases hz : ovs.length = 0
                    · omega
                    · have := harr (ovs.length - 1) (ovs[ovs.length - 1]'(by omega)) (List.getElem?_eq_getElem (by omega))
                      have := (Array.getElem?_eq_some_iff.1 this).1
                      omega
                  have em : (len + n) * esK es' = len * esK es' + n * esK es' := Nat.add_mul _ _ _
                  split at hd
                  · rename_i hav
                    split at hd
                    · rename_i hfit
                      cases hd
                      have hfitb : ρ.st j + off + len * esK es' + 0 + vs.length ≤ arr.size := by omega
                      have hst := run_storeCells_at P (ρ.blk j) (ρ.st j + off + len * esK es') T vs 0 arr w hg hfitb (scal_of hcs)
                      rw [setRow_shape] at hst
                      have run := app_room ht hi hz hsrc ts' ty xs (base := some ⟨ρ.blk j, ρ.st j + off, none⟩) (sLen := len) (sCap := cc) (by omega) (w' := w.setRow (ρ.blk j) (setAt arr.toList (ρ.st j + off + len * esK es') vs).toArray) (fun a e => by cases e; rw [add_lit0, hie]; exact hst) (fun e => by cases e)
                      have hsz : ((setAt arr.toList (ρ.st j + off + len * esK es') vs).toArray).size = arr.size := by
                        simp only [List.size_toArray]
                        rw [setAt_len _ _ _ (by simpa using hfitb)]
                        simp
                      obtain ⟨s, i2⟩ := write_cells inv ho hg hsz (fun o hlt => by
                          simp only [List.getElem?_toArray]
                          rw [setAt_get _ _ _ (by simp; omega), if_pos (by omega)]
                          simp) (DRepL.setAt hov hcs (off + len * esK es')) (fun q v hq => by
                          have := setAt_arr (arr := arr.toList) (st := ρ.st j) (off := off + len * esK es') (xs := vs) (fun q v hq => by simpa using harr q v hq) (by omega) (by simp; omega) q v hq
                          simpa [Nat.add_assoc] using this)
                      refine ⟨_, _, _, run, s, i2, ?_, fun i hi => .inl hi⟩
                      simp only [DRep]
                      exact ⟨hal, cc, rfl, by omega, hac, hcap⟩
                    · cases hd
                  · rename_i hav
                    split at hd
                    · rename_i hfit
                      obtain ⟨hfit, hol⟩ := hfit
                      cases hd
                      have hn63 : len + n ≤ 9223372036854775807 := by
                        have := Nat.le_mul_of_pos_right (len + n) hby0
                        omega
                      have hmidl : ((ovs.drop off).take (len * esK es')).length = len * esK es' := by simp; omega
                      have hmid : DRL w h ρ ((c.drop off).take (len * esK es') ++ cs) ((ovs.drop off).take (len * esK es') ++ vs) := ((hov.drop off).take _).append hcs
                      have hmg : ∀ (q : Nat) (v : Value), ((ovs.drop off).take (len * esK es'))[q]? = some v → arr[ρ.st j + off + q]? = some v := by
                        intro q v hq
                        rw [List.getElem?_take] at hq
                        split at hq
                        · rw [Nat.add_assoc]
                          exact harr _ _ (by simpa using hq)
                        · cases hq
                      by_cases hroom : len + n ≤ cc
                      · have hm1 : (len + n) * esK es' ≤ cc * esK es' := Nat.mul_le_mul_right _ hroom
                        have hcap' : off + cc * esK es' ≤ ρ.cap j := hcap
                        have hfitb : ρ.st j + off + len * esK es' + 0 + vs.length ≤ arr.size := by omega
                        have hst := run_storeCells_at P (ρ.blk j) (ρ.st j + off + len * esK es') T vs 0 arr w hg hfitb (scal_of hcs)
                        rw [setRow_shape] at hst
                        have run := app_room ht hi hz hsrc ts' ty xs (base := some ⟨ρ.blk j, ρ.st j + off, none⟩) (sLen := len) (sCap := cc) hroom (w' := w.setRow (ρ.blk j) (setAt arr.toList (ρ.st j + off + len * esK es') vs).toArray) (fun a e => by cases e; rw [add_lit0, hie]; exact hst) (fun e => by cases e)
                        have hsz : ((setAt arr.toList (ρ.st j + off + len * esK es') vs).toArray).size = arr.size := by
                          simp only [List.size_toArray]
                          rw [setAt_len _ _ _ (by simpa using hfitb)]
                          simp
                        have wrj : ∀ o, ρ.st j ≤ o → Wr h ρ (ρ.blk j) o := fun o hlo => ⟨j, _, ho, rfl, rfl, hlo⟩
                        obtain ⟨s, i2⟩ := adopt_ok inv hid hjid ho (ob' := .cells ((c.drop off).take (len * esK es') ++ cs) false) hg hsz (ρ.st j + off) (ρ.cap j - off) 0 ⟨_, wrj _ (Nat.le_refl _)⟩ (fun o hno => by
                            have hlt : o < ρ.st j := Nat.lt_of_not_le fun hle => hno (wrj o hle)
                            simp only [List.getElem?_toArray]
                            rw [setAt_get _ _ _ (by simp; omega), if_pos (by omega)]
                            simp) (fun o hlo => wrj o (by simp only at hlo; omega)) (fun s => by
                            simp only [OR, Rho.add_blk, Rho.add_st, Rho.add_cap]
                            refine ⟨_, T, _, setRow_heap w _ arr _ T _ hg, by rw [hsz, hsize]; omega, s.drl hmid, fun q v hq => ?_⟩
                            simp only [List.getElem?_toArray]
                            rw [setAt_get _ _ _ (by simp; omega)]
                            by_cases hq2 : q < len * esK es'
                            · rw [List.getElem?_append_left (by omega)] at hq
                              rw [if_pos (by omega)]
                              simpa using hmg q v hq
                            · rw [List.getElem?_append_right (by omega), hmidl] at hq
                              have := (List.getElem?_eq_some_iff.1 hq).1
                              rw [if_neg (by omega), if_pos (by omega), show ρ.st j + off + q - (ρ.st j + off + len * esK es') = q - len * esK es' by omega]
                              exact hq)
                        refine ⟨_, _, _, run, s, i2, ?_, al_add _ _ _ _ _ _⟩
                        simp only [DRep, Rho.add_blk, Rho.add_st, Rho.add_cap]
                        exact ⟨Rho.add_al .., cc, by simp, Nat.le_refl _, hroom, by simp only [esK] at hcap'; omega⟩
                      · have hll : ((ovs.drop off).take (len * esK es')).length + vs.length = (len + n) * esK es' := by omega
                        have run := app_grow ht hi hz hsrc ts' ty xs (base := some ⟨ρ.blk j, ρ.st j + off, none⟩) (sLen := len) (sCap := cc) (by omega) (by rw [hb]; exact hfit) hn63 (olds := (ovs.drop off).take (len * esK es')) (by
                          rw [hie]
                          refine first_some hmidl (fun q v hq => ?_)
                          rw [cell_heap (w := w) (W := w.drew) rfl, add_lit0]
                          have := hmg q v hq
                          simp [World.cell?, hg, this])
                        have hge := grownCap_ge w (len + n) cc el
                        obtain ⟨s1, i1⟩ := drop_ok inv j
                        have hgs := grown_size hzs ((ovs.drop off).take (len * esK es')) vs hll hge
                        obtain ⟨s2, i2⟩ := new_cells i1.drew1 hid ((s1.trans (Stp.drew1 _ _ _)).drl hmid) el (((ovs.drop off).take (len * esK es')).toArray ++ vs.toArray ++ Builtin.zeroCells z.cells (grownCap w (len + n) cc el - (len + n))) (fun q v hq => grown_get _ vs _ q v hq)
                        refine ⟨_, _, _, run, (s1.trans (Stp.drew1 _ _ _)).trans s2, i2, ?_, al_add _ _ _ _ _ _⟩
                        simp only [DRep, Rho.add_blk, Rho.add_st, Rho.add_cap]
                        exact ⟨Rho.add_al .., _, by simp, Nat.le_refl _, hge, by simpa [esK] using hgs⟩
                    · cases hd
                · cases hd
              · cases hd
            · cases hd
        · cases hd
      · cases hd
    · cases hd
  · cases hd
end
end Go.Proofs.YtddmnddocbmjnaaGreat.Dv
namespace Go.Proofs.YtddmnddocbmjnaaGreat.Dv
open Go.RowKit
section
variable {P : Program}
theorem flat_check (em : Bool) : ∀ (d : Nat) (t : TypeId) (ks : List Nat), flatK P d t = some ks → ∀ D, d ≤ D → ∀ (xs : List Value) (w : World), xs.length = ks.length → (Instr.checkKey em D t (valOf P t xs)).run P w = .ok () w
  | 0, t, ks, h, D, hD => by simp [flatK] at h
  | d + 1, t, ks, h, 0, hD => by omega
  | d + 1, t, ks, h, D + 1, hD => by
    intro xs w hl
    simp only [flatK] at h
    split at h
    · rename_i hu; simp [Instr.checkKey, run_underlying hu]
    · rename_i hu; simp [Instr.checkKey, run_underlying hu]
    · rename_i hu; simp [Instr.checkKey, run_underlying hu]
    · rename_i fs hu
      split at h
      · cases h
      · have hv : valOf P t xs = .agg xs.toArray := by simp [valOf, aggT, hu]
        rw [hv, Instr.checkKey]
        simp only [Sem.run_bind, run_underlying hu, Result.andThen_ok]
        rw [← Array.forIn_toList]
        have key : ∀ (gs : List Field) (o : Nat) (ks : List Nat), flatF (flatK P d) P gs o = some ks → o + ks.length ≤ xs.length → (forIn gs PUnit.unit fun f _ => if f.name ≠ "_" then (do let __do_lift ← part f.type xs.toArray f.offset; Instr.checkKey em D f.type __do_lift; pure (ForInStep.yield PUnit.unit)) else pure (ForInStep.yield PUnit.unit) : Sem PUnit).run P w = .ok PUnit.unit w := by
          intro gs
          induction gs with
          | nil => intro o ks _ _; simp
          | cons g gs ih =>
            intro o ks hk hle
            simp only [flatF] at hk
            split at hk
            · rename_i hn
              obtain ⟨hn, ho⟩ := hn
              cases h1 : flatK P d g.type with
              | none => rw [h1] at hk; cases hk
              | some k1 =>
                rw [h1] at hk
                simp only at hk
                split at hk
                · rename_i hsz
                  cases h2 : flatF (flatK P d) P gs (o + k1.length) with
                  | none => rw [h2] at hk; cases hk
                  | some k2 =>
                    rw [h2] at hk
                    cases hk
                    simp only [List.length_append] at hle
                    obtain ⟨ag, hag, ha1⟩ := flatK_agg h1
                    have p1 := part_run (P := P) hag hsz ha1 (xs := xs) (off := o) (by omega) w
                    have p2 := flat_check em d g.type k1 h1 D (by omega) ((xs.drop o).take k1.length) w (by simp; omega)
                    have hne : g.name ≠ "_" := hn
                    simp only [List.forIn_cons, Sem.run_bind, hne, ne_eq, not_false_eq_true, if_true, ho, p1, p2, Result.andThen_ok, Sem.run_pure]
                    exact ih _ _ h2 (by omega)
                · cases hk
            · cases hk
        have h9 := key fs.toList 0 ks h (by omega)
        simp at h9
        simp [h9]
    · rename_i n e hu
      cases hk : flatK P d e with
      | none => rw [hk] at h; cases h
      | some k1 =>
        rw [hk] at h
        simp only at h
        split at h
        · rename_i hsz
          cases h
          obtain ⟨g, hag, h1⟩ := flatK_agg hk
          rw [repN_len] at hl
          have hv : valOf P t xs = .agg xs.toArray := by simp [valOf, aggT, hu]
          rw [hv, Instr.checkKey]
          simp only [Sem.run_bind, run_underlying hu, Result.andThen_ok]
          simp only [Std.Legacy.Range.forIn_eq_forIn_range', Std.Legacy.Range.size, Nat.sub_zero, Nat.add_one_sub_one, Nat.div_one]
          have key : ∀ (m i : Nat), i * k1.length + m * k1.length ≤ xs.length → (forIn (List.range' i m) PUnit.unit fun i _ => (do let __do_lift ← sizeOf e; let __do_lift ← part e xs.toArray (i * __do_lift); Instr.checkKey em D e __do_lift; pure (ForInStep.yield PUnit.unit)) : Sem PUnit).run P w = .ok PUnit.unit w := by
            intro m
            induction m with
            | zero => intro i _; simp
            | succ m ih =>
              intro i hle
              have em1 : (m + 1) * k1.length = m * k1.length + k1.length := Nat.succ_mul _ _
              have em2 : (i + 1) * k1.length = i * k1.length + k1.length := Nat.succ_mul _ _
              have p1 := part_run (P := P) hag hsz h1 (xs := xs) (off := i * k1.length) (by omega) w
              have p2 := flat_check em d e k1 hk D (by omega) ((xs.drop (i * k1.length)).take k1.length) w (by simp; omega)
              simp only [List.range'_succ, List.forIn_cons, Sem.run_bind, szT_run hsz, Result.andThen_ok, p1, p2, Sem.run_pure]
              exact ih (i + 1) (by omega)
          have h9 := key n 0 (by omega)
          simp at h9
          simp [h9]
        · cases h
    · cases h
end
section
variable {P : Program} {ρ : Rho} {w : World} {h : PT AObj}
theorem eqL_same {F : Addr → Value → Prop} : ∀ {ks : List Nat} {zas bs : List PDV}, eqL ks zas bs = some true → ∀ {xs ys : List Value}, PRepL F zas xs → PRepL F bs ys → xs = ys ∧ ∀ v ∈ xs, ∀ n, Instr.sameBits n v v = true
  | [], [], [], _, xs, ys, hx, hy => by
    simp only [PRepL] at hx hy
    subst hx; subst hy
    simp
  | k :: ks, a :: zas, b :: bs, he, xs, ys, hx, hy => by
    simp only [PRepL] at hx hy
    obtain ⟨x, xs', rfl, _, ha, hx⟩ := hx
    obtain ⟨y, ys', rfl, _, hb, hy⟩ := hy
    simp only [eqL] at he
    split at he
    · rename_i p q h1 h2
      simp only [Option.some.injEq, Bool.and_eq_true] at he
      obtain ⟨rfl, rfl⟩ := he
      obtain ⟨e, hs⟩ := eqL_same h2 hx hy
      subst e
      rcases eq1_val h1 ha hb with ⟨_, kk, p, q, rfl, rfl, e⟩ | ⟨_, p, q, rfl, rfl, e⟩ | ⟨_, p, q, rfl, rfl, e⟩
      · have e : p = q := by simpa using e.symm
        subst e
        refine ⟨rfl, fun v hv n => ?_⟩
        rcases List.mem_cons.1 hv with rfl | hv
        · cases n <;> simp [Instr.sameBits]
        · exact hs v hv n
      · have e : p = q := by simpa using e.symm
        subst e
        refine ⟨rfl, fun v hv n => ?_⟩
        rcases List.mem_cons.1 hv with rfl | hv
        · cases n <;> simp [Instr.sameBits]
        · exact hs v hv n
      · have e : p.toList = q.toList := by simpa using e.symm
        have e : p = q := by
          rw [ByteArray.toList_eq, ByteArray.toList_eq] at e
          obtain ⟨⟨p⟩⟩ := p
          obtain ⟨⟨q⟩⟩ := q
          simpa using e
        subst e
        refine ⟨rfl, fun v hv n => ?_⟩
        rcases List.mem_cons.1 hv with rfl | hv
        · cases n <;> simp [Instr.sameBits, beq_toListBytes]
        · exact hs v hv n
    · cases he
  | [], _ :: _, _, he, _, _, _, _ => by simp [eqL] at he
  | [], [], _ :: _, he, _, _, _, _ => by simp [eqL] at he
  | _ :: _, [], _, he, _, _, _, _ => by simp [eqL] at he
  | _ :: _, _ :: _, [], he, _, _, _, _ => by simp [eqL] at he
theorem eqK_ok {kt : TypeId} {ks : List Nat} (hk : kindsT P kt = some ks) {k k2 : PDV} (hok : keyOk P kt k = true) {r : Bool} (he : eqK ks k k2 = some r) {F : Addr → Value → Prop} {x y : Value} (hx : PRep F k x) (hy : PRep F k2 y) (w : World) :
    (Op.equal kt x y).run P w = .ok r w ∧ (∀ d, P.underlying kt = some d → ∀ b, Instr.sameNow d x y = some b → b = r) ∧ (r = true → (Instr.keyThatStays y x).run P w = .ok x w) ∧ ∀ em, (Instr.checkKey em 10000 kt x).run P w = .ok () w := by
  unfold kindsT at hk
  split at hk
  · unfold eqK at he
    split at he
    · rename_i zas bs
      have hag : aggT P kt = some true := by
        unfold keyOk at hok
        split at hok <;> first | assumption | contradiction | cases hok
      simp only [PRep] at hx hy
      obtain ⟨xs, rfl, hx⟩ := hx
      obtain ⟨ys, rfl, hy⟩ := hy
      have e1 := flat_eq (P := P) 8 kt ks hk 10000 (by omega) zas bs r he xs ys hx hy w
      have e2 := fun em => flat_check (P := P) em 8 kt ks hk 10000 (by omega) xs w (by rw [hx.len]; exact (eqL_len he).1)
      simp only [valOf, hag, if_true] at e1 e2
      refine ⟨e1, fun d _ b hb => by cases d <;> simp [Instr.sameNow] at hb, fun hr => ?_, e2⟩
      subst hr
      obtain ⟨e, hs⟩ := eqL_same he hx hy
      subst e
      have : Instr.sameBits 10000 (.agg xs.toArray) (.agg xs.toArray) = true := by
        simp only [Instr.sameBits, beq_self_eq_true, Bool.true_and, List.all_eq_true]
        rintro ⟨a, b⟩ hab
        have h1 : a = b ∧ a ∈ xs := by
          have hz : ∀ (l : List Value), (a, b) ∈ l.zip l → a = b ∧ a ∈ l := by
            intro l
            induction l with
            | nil => intro hm; cases hm
            | cons c l ih =>
              intro hm
              simp only [List.zip_cons_cons, List.mem_cons, Prod.mk.injEq] at hm
              rcases hm with ⟨rfl, rfl⟩ | hm
              · simp
              · obtain ⟨p, q⟩ := ih hm; exact ⟨p, by simp [q]⟩
          exact hz xs (by simpa using hab)
        obtain ⟨rfl, hm⟩ := h1
        exact hs a hm _
      simp [Instr.keyThatStays, this]
    · rename_i a b
      have hag : aggT P kt = some false := by
        unfold keyOk at hok
        split at hok <;> first | assumption | contradiction | cases hok
      simp only [PRep] at hx hy
      obtain ⟨ex, hsx⟩ := hx
      obtain ⟨ey, hsy⟩ := hy
      have hx' : PRepL F [.s a] [x] := by simp only [PRepL, PRep]; exact ⟨x, [], rfl, by rw [ex]; exact hsx, ⟨ex, hsx⟩, rfl⟩
      have hy' : PRepL F [.s b] [y] := by simp only [PRepL, PRep]; exact ⟨y, [], rfl, by rw [ey]; exact hsy, ⟨ey, hsy⟩, rfl⟩
      have e1 := flat_eq (P := P) 8 kt ks hk 10000 (by omega) _ _ r he [x] [y] hx' hy' w
      have e2 := fun em => flat_check (P := P) em 8 kt ks hk 10000 (by omega) [x] w (by rw [← (eqL_len he).1]; rfl)
      simp only [valOf, hag, reduceCtorEq, if_false, List.headD_cons, Option.some.injEq, Bool.false_eq_true] at e1 e2
      obtain ⟨k0, rfl⟩ : ∃ k0, ks = [k0] := by
        have hl := (eqL_len he).1
        match ks, hl with
        | [k], _ => exact ⟨k, rfl⟩
      obtain ⟨p, q, x', y', h1, e3, e4, ha, hb⟩ := one_cell (ks := []) he hx' hy'
      cases e3; cases e4
      refine ⟨e1, fun d _ b hb' => ?_, fun hr => ?_, e2⟩
      · rcases eq1_val h1 ha hb with ⟨_, kk, p, q, rfl, rfl, e⟩ | ⟨_, p, q, rfl, rfl, e⟩ | ⟨_, p, q, rfl, rfl, e⟩
        · cases d <;> simp [Instr.sameNow] at hb'
          rw [e, ← hb']
        · cases d <;> simp [Instr.sameNow] at hb'
          rw [e, ← hb']
        · cases d <;> simp [Instr.sameNow] at hb'
          rw [e, ← hb', beq_toListBytes]
      · subst hr
        obtain ⟨e, hs⟩ := eqL_same he hx' hy'
        simp only [List.cons.injEq, and_true] at e
        subst e
        simp [Instr.keyThatStays, hs x (by simp) 10000]
    · cases he
  · cases hk
end
end Go.Proofs.YtddmnddocbmjnaaGreat.Dv
namespace Go.Proofs.YtddmnddocbmjnaaGreat.Dv
open Go.RowKit
section
variable {P : Program} {ρ : Rho} {w : World} {h : PT AObj}
def KB (P : Program) (w : World) (kt : TypeId) (kv : Value) (d : TypeDesc) (m : MapEntry) (b : Bool) : Prop :=
  (Op.equal kt kv m.key).run P w = .ok b w ∧ (∀ r, Instr.sameNow d kv m.key = some r → r = b) ∧ (b = true → (Instr.keyThatStays m.key kv).run P w = .ok kv w)
theorem find_none {kt : TypeId} {kv : Value} {d : TypeDesc} : ∀ (L : List MapEntry) (i : Nat), (∀ m ∈ L, KB P w kt kv d m false) → (Instr.findAsking kt kv L i).run P w = .ok none w ∧ ∀ q, Instr.findNow d kv L i = some q → q = none
  | [], i, _ => ⟨by simp [Instr.findAsking], fun q hq => by simp [Instr.findNow] at hq; exact hq.symm⟩
  | m :: L, i, h => by
    obtain ⟨e1, e2, _⟩ := h m (by simp)
    obtain ⟨h1, h2⟩ := find_none L (i + 1) (fun m hm => h m (by simp [hm]))
    refine ⟨by simp [Instr.findAsking, e1, h1], fun q hq => ?_⟩
    simp only [Instr.findNow] at hq
    split at hq
    · rename_i hs
      have := e2 _ hs
      cases this
    · exact h2 q hq
    · cases hq
theorem find_some {kt : TypeId} {kv : Value} {d : TypeDesc} {m0 : MapEntry} (h0 : KB P w kt kv d m0 true) : ∀ (L : List MapEntry) (i : Nat), (∀ m ∈ L, KB P w kt kv d m false ∨ KB P w kt kv d m true ∧ m = m0) → m0 ∈ L →
    ∃ j, L[j]? = some m0 ∧ (Instr.findAsking kt kv L i).run P w = .ok (some (i + j, m0.val)) w ∧ ∀ q, Instr.findNow d kv L i = some q → q = some (i + j, m0.val)
  | [], i, _, hm => by cases hm
  | m :: L, i, h, hm => by
    rcases h m (by simp) with ⟨e1, e2, _⟩ | ⟨⟨e1, e2, _⟩, rfl⟩
    · have hml : m0 ∈ L := by
        rcases List.mem_cons.1 hm with h | h
        · subst h
          have h1 := h0.1
          rw [e1] at h1
          cases h1
        · exact h
      obtain ⟨j, h1, h2, h3⟩ := find_some h0 L (i + 1) (fun m hm => h m (by simp [hm])) hml
      refine ⟨j + 1, by simpa using h1, by simp [Instr.findAsking, e1, h2]; omega, fun q hq => ?_⟩
      simp only [Instr.findNow] at hq
      split at hq
      · rename_i hs
        have := e2 _ hs
        cases this
      · rw [h3 q hq, show i + 1 + j = i + (j + 1) by omega]
      · cases hq
    · refine ⟨0, by simp, by simp [Instr.findAsking, e1], fun q hq => ?_⟩
      simp only [Instr.findNow] at hq
      split at hq
      · cases hq; rfl
      · rename_i hs
        have := e2 _ hs
        cases this
      · cases hq
theorem find_abs {kt : TypeId} {ks : List Nat} (hk : kindsT P kt = some ks) {k : PDV} (hok : keyOk P kt k = true) {kv : Value} (hkv : DR w h ρ (.p k) kv) {d : TypeDesc} (hd : P.underlying kt = some d) :
    ∀ {es : List (PDV × DV)} {ms : List MapEntry}, MapR w h ρ es ms → ∀ (i : Nat) (r : Option (Nat × DV)), findK ks k es i = some r →
      (r = none ∧ ∀ m ∈ ms, KB P w kt kv d m false) ∨ ∃ j dv m0, r = some (i + j, dv) ∧ ms[j]? = some m0 ∧ DR w h ρ dv m0.val ∧ KB P w kt kv d m0 true ∧ ∀ m ∈ ms, KB P w kt kv d m false ∨ KB P w kt kv d m true ∧ m = m0 := by
  intro es ms hm
  induction hm with
  | nil =>
    intro i r hr
    simp only [findK] at hr
    cases hr
    exact .inl ⟨rfl, by simp⟩
  | @cons e m es ms h1 h2 _ ih =>
    intro i r hr
    simp only [findK] at hr
    simp only [DRep] at hkv h1
    split at hr
    · rename_i he
      obtain ⟨e1, e2, e3, _⟩ := eqK_ok hk hok he hkv h1 w
      have kb : KB P w kt kv d m false := ⟨e1, fun r hr => e2 d hd r hr, fun h => by cases h⟩
      rcases ih (i + 1) r hr with ⟨h3, h4⟩ | ⟨j, dv, m0, h3, h4, h5, h6, h7⟩
      · exact .inl ⟨h3, fun x hx => by rcases List.mem_cons.1 hx with h | h; · subst h; exact kb
                                       · exact h4 x h⟩
      · exact .inr ⟨j + 1, dv, m0, by rw [h3, show i + 1 + j = i + (j + 1) by omega], by simpa using h4, h5, h6, fun x hx => by
          rcases List.mem_cons.1 hx with h | h
          · subst h; exact .inl kb
          · exact h7 x h⟩
    · rename_i he hn
      cases hr
      obtain ⟨e1, e2, e3, _⟩ := eqK_ok hk hok he hkv h1 w
      have kb : KB P w kt kv d m true := ⟨e1, fun r hr => e2 d hd r hr, e3⟩
      rcases ih (i + 1) none hn with ⟨_, h4⟩ | ⟨j, dv, m0, h3, _⟩
      · exact .inr ⟨0, e.2, m, rfl, rfl, h2, kb, fun x hx => by
          rcases List.mem_cons.1 hx with h | h
          · subst h; exact .inr ⟨kb, rfl⟩
          · exact .inl (h4 x h)⟩
      · cases h3
    · cases hr
theorem findKey_ok {kt : TypeId} {ks : List Nat} (hk : kindsT P kt = some ks) {k : PDV} (hok : keyOk P kt k = true) {kv : Value} (hkv : DR w h ρ (.p k) kv) {es : List (PDV × DV)} {L ms : List MapEntry} (hp : L.Perm ms) (hm : MapR w h ρ es ms) {r : Option (Nat × DV)} (hr : findK ks k es 0 = some r) :
    (r = none ∧ (Instr.findKey kt kv L).run P w = .ok none w) ∨ ∃ j dv m0 jj, r = some (j, dv) ∧ ms[j]? = some m0 ∧ L[jj]? = some m0 ∧ DR w h ρ dv m0.val ∧ (Instr.keyThatStays m0.key kv).run P w = .ok kv w ∧ (Instr.findKey kt kv L).run P w = .ok (some (jj, m0.val)) w := by
  have hd : ∃ d, P.underlying kt = some d := by
    unfold keyOk aggT at hok
    cases hu : P.underlying kt with
    | none => rw [hu] at hok; simp at hok
    | some d => exact ⟨d, rfl⟩
  obtain ⟨d, hd⟩ := hd
  have run : ∀ q, (Instr.findAsking kt kv L 0).run P w = .ok q w → (∀ q', Instr.findNow d kv L 0 = some q' → q' = q) → (Instr.findKey kt kv L).run P w = .ok q w := by
    intro q h1 h2
    cases hn : Instr.findNow d kv L 0 with
    | none => simp [Instr.findKey, run_underlying hd, hn, h1]
    | some q' => simp [Instr.findKey, run_underlying hd, hn, h2 q' hn]
  rcases find_abs hk hok hkv hd hm 0 r hr with ⟨h1, h2⟩ | ⟨j, dv, m0, h1, h2, h3, h4, h5⟩
  · obtain ⟨h3, h4⟩ := find_none (d := d) L 0 (fun m hm => h2 m (hp.mem_iff.1 hm))
    exact .inl ⟨h1, run _ h3 h4⟩
  · obtain ⟨jj, h6, h7, h8⟩ := find_some h4 L 0 (fun m hm => h5 m (hp.mem_iff.1 hm)) (hp.mem_iff.2 (List.mem_of_getElem? h2))
    rw [Nat.zero_add] at h1 h7 h8
    exact .inr ⟨j, dv, m0, jj, h1, h2, h6, h3, h4.2.2 rfl, run _ h7 h8⟩
theorem perm_set {α : Type} {L ms : List α} (hp : L.Perm ms) {m0 x : α} : ∀ {i j : Nat}, L[i]? = some m0 → ms[j]? = some m0 → (L.set i x).Perm (ms.set j x) := by
  intro i j hi hj
  have cut : ∀ {l : List α} {i : Nat}, l[i]? = some m0 → ∃ a b, l = a ++ m0 :: b ∧ l.set i x = a ++ x :: b := by
    intro l i h
    obtain ⟨hlt, he⟩ := List.getElem?_eq_some_iff.1 h
    refine ⟨l.take i, l.drop (i + 1), ?_, List.set_eq_take_append_cons_drop .. |>.trans (by simp [hlt])⟩
    rw [← he, List.getElem_cons_drop, List.take_append_drop]
  obtain ⟨a, b, e1, e2⟩ := cut hi
  obtain ⟨c, d, e3, e4⟩ := cut hj
  rw [e2, e4]
  rw [e1, e3] at hp
  have h1 : (a ++ b).Perm (c ++ d) := by
    have := (List.perm_middle.symm.trans hp).trans List.perm_middle
    exact (List.perm_cons m0).1 this
  exact (List.perm_middle.trans ((List.perm_cons x).2 h1)).trans List.perm_middle.symm
theorem mapT_run {t kt e : TypeId} {ks : List Nat} (hm : mapT P t = some (kt, e, ks)) : P.underlying t = some (.map kt e) ∧ kindsT P kt = some ks := by
  unfold mapT at hm
  split at hm
  · rename_i k e' hu
    cases hk : kindsT P k with
    | none => rw [hk] at hm; cases hm
    | some ks' => rw [hk] at hm; cases hm; exact ⟨hu, hk⟩
  · cases hm
theorem check_ok {kt : TypeId} {ks : List Nat} (hk : kindsT P kt = some ks) {k : PDV} (hok : keyOk P kt k = true) {r : Bool} (he : eqK ks k k = some r) {kv : Value} (hkv : DR w h ρ (.p k) kv) (em : Bool) : (Instr.checkKey em 10000 kt kv).run P w = .ok () w := by
  simp only [DRep] at hkv
  exact (eqK_ok hk hok he hkv hkv w).2.2.2 em
theorem lkp_ok (inv : Inv ρ w h) {t : TypeId} {x key : DV} {ok : Bool} {e : Eff} (hd : lkp P t x key ok h = some e) {vx vk : Value} (hx : DR w h ρ x vx) (hkk : DR w h ρ key vk) : ∃ v, (Instr.lookup t vx vk ok).run P w = .ok v w ∧ DR w h ρ e.dv v ∧ e.up = [] := by
  unfold lkp at hd
  split at hd
  · rename_i kt el ks i k hmt
    obtain ⟨hu, hks⟩ := mapT_run hmt
    split at hd
    · rename_i hok
      obtain ⟨hok, hself⟩ := hok
      split at hd
      · rename_i es ho
        simp only [DRep] at hx
        obtain ⟨_, rfl⟩ := hx
        obtain ⟨_, _, hor⟩ := inv.obj _ _ ho
        simp only [OR] at hor
        obtain ⟨en, ck, mss, hg, hkp, hmr⟩ := hor
        have hpm := hkp.1
        have hck : ∀ em, (Instr.checkKey em 10000 kt vk).run P w = .ok () w := by
          cases hse : eqK ks k k with
          | none => rw [hse] at hself; cases hself
          | some r => exact fun em => check_ok hks hok hse hkk em
        split at hd
        · rename_i j d hf
          cases hd
          rcases findKey_ok hks hok hkk hpm hmr hf with ⟨h1, _⟩ | ⟨j', d', m, jj, h1, _, _, hdv, _, hq⟩
          · cases h1
          · cases h1
            cases ok
            · refine ⟨m.val, ?_, hdv, rfl⟩
              simp only [Instr.lookup, Sem.run_bind, run_underlying hu, Result.andThen_ok, getObj_map hg, Sem.run_pure, hck, hq, Bool.false_eq_true, if_false]
            · refine ⟨.tuple #[m.val, .bool true], ?_, ?_, rfl⟩
              · simp only [Instr.lookup, Sem.run_bind, run_underlying hu, Result.andThen_ok, getObj_map hg, Sem.run_pure, hck, hq, if_true]
              · simp only [if_true]
                have : DRT w h ρ [d, .p (.s (.bool true))] [m.val, .bool true] := by simp only [DRepT]; exact ⟨m.val, _, rfl, hdv, _, [], rfl, b_rep true, rfl⟩
                exact DRep.mkTup this
        · rename_i hf
          have hq : (Instr.findKey kt vk en.toList).run P w = .ok none w := by
            rcases findKey_ok hks hok hkk hpm hmr hf with ⟨_, h1⟩ | ⟨j', d', m, jj, h1, _⟩
            · exact h1
            · cases h1
          split at hd
          · rename_i dz hz
            cases hd
            unfold zeroD at hz
            split at hz
            · rename_i inf hi
              split at hz
              · rename_i v hv
                have hzv := zeroT_run (P := P) hi hv w
                have hdv : DR w h ρ dz v := ofConst_ok hz
                cases ok
                · refine ⟨v, ?_, hdv, rfl⟩
                  simp only [Instr.lookup, Sem.run_bind, run_underlying hu, Result.andThen_ok, getObj_map hg, Sem.run_pure, hck, hq, hzv, Bool.false_eq_true, if_false]
                · refine ⟨.tuple #[v, .bool false], ?_, ?_, rfl⟩
                  · simp only [Instr.lookup, Sem.run_bind, run_underlying hu, Result.andThen_ok, getObj_map hg, Sem.run_pure, hck, hq, hzv, if_true]
                  · simp only [if_true]
                    have : DRT w h ρ [dz, .p (.s (.bool false))] [v, .bool false] := by simp only [DRepT]; exact ⟨v, _, rfl, hdv, _, [], rfl, b_rep false, rfl⟩
                    exact DRep.mkTup this
              · cases hz
            · cases hz
          · cases hd
        · cases hd
      · cases hd
    · cases hd
  · cases hd
theorem write_map (inv : Inv ρ w h) {id : Nat} {es : List (PDV × DV)} (ho : h.get id = some (.map es)) {en en' : Array MapEntry} {ck ck' : Nat} (hg : w.heap[ρ.blk id]? = some (.map en ck)) {es' : List (PDV × DV)} {ms' : List MapEntry} (hpm : Kept en' ck' ms') (hc : MapR w h ρ es' ms') :
    Stp ρ w h ρ { w with heap := w.heap.setIfInBounds (ρ.blk id) (.map en' ck') } (h.set id (some (.map es'))) ∧ Inv ρ { w with heap := w.heap.setIfInBounds (ρ.blk id) (.map en' ck') } (h.set id (some (.map es'))) := by
  have hlt : ρ.blk id < w.heap.size := (inv.obj id _ ho).2.1
  have hwr : ∀ o, Wr h ρ (ρ.blk id) o := fun o => ⟨id, _, ho, rfl, trivial⟩
  have hoth : ∀ b, b ≠ ρ.blk id → (w.heap.setIfInBounds (ρ.blk id) (.map en' ck'))[b]? = w.heap[b]? := fun b hb => by
    rw [Array.getElem?_setIfInBounds]; simp [Ne.symm hb]
  have hme : (w.heap.setIfInBounds (ρ.blk id) (.map en' ck'))[ρ.blk id]? = some (.map en' ck') := by
    rw [Array.getElem?_setIfInBounds]; simp [hlt]
  have s1 : Stp ρ w h ρ { w with heap := w.heap.setIfInBounds (ρ.blk id) (.map en' ck') } h := by
    refine ⟨rfl, rfl, rfl, by simp, fun b hb hn => ?_, fun a ha hn => ?_, fun _ _ _ h => h, fun _ h => h, fun _ _ => ⟨rfl, rfl, rfl⟩, fun _ _ _ h => ⟨h, rfl⟩, rfl, Nat.le_refl _⟩
    · exact hoth b (fun e => hn 0 (e ▸ hwr 0))
    · exact cell_of_heap (hoth _ (fun e => hn (e ▸ hwr _)))
  have s2 : Stp ρ { w with heap := w.heap.setIfInBounds (ρ.blk id) (.map en' ck') } h ρ { w with heap := w.heap.setIfInBounds (ρ.blk id) (.map en' ck') } (h.set id (some (.map es'))) := by
    refine Stp.turn _ _ _ _ _ ?_ (fun _ h => h) (fun _ _ => ⟨rfl, rfl, rfl⟩) ?_
    · rintro b o _ ⟨j, x, hj, hb, hcc⟩
      by_cases e : id = j
      · subst e
        subst hb
        exact hwr o
      · rw [PT.get_set_ne _ _ e] at hj
        exact ⟨j, x, hj, hb, hcc⟩
    · intro i k _ ht
      unfold Tp at *
      by_cases e : id = i
      · subst e; simp at ht
      · rw [PT.get_set_ne _ _ e] at ht; exact ⟨ht, rfl⟩
  have s := s1.trans s2
  refine ⟨s, inv.step s id ?_ ?_⟩
  · intro j x hne hj
    rw [PT.get_set_ne _ _ (Ne.symm hne)] at hj
    exact ⟨hj, hoth _ (fun e => hne (inv.inj j id _ _ hj ho e))⟩
  · intro x hx
    rw [PT.get_set_same] at hx
    injection hx with hx
    subst hx
    refine ⟨(inv.obj id _ ho).1, by simpa using hlt, ⟨en', ck', ms', hme, hpm, s.mapr hc⟩, fun j y hne hj => ?_, fun o => inv.fd id _ o ho⟩
    rw [PT.get_set_ne _ _ (Ne.symm hne)] at hj
    exact fun e => hne (inv.inj j id _ _ hj ho e)
theorem MapR.append {es es2 : List (PDV × DV)} {ms ms2 : List MapEntry} (hm : MapR w h ρ es ms) (h2 : MapR w h ρ es2 ms2) : MapR w h ρ (es ++ es2) (ms ++ ms2) := by
  induction hm with
  | nil => exact h2
  | cons a b _ ih => exact .cons a b ih
theorem MapR.set {es : List (PDV × DV)} {ms : List MapEntry} (hm : MapR w h ρ es ms) {e : PDV × DV} {m : MapEntry} (h1 : DR w h ρ (.p e.1) m.key) (h2 : DR w h ρ e.2 m.val) : ∀ j, MapR w h ρ (es.set j e) (ms.set j m) := by
  induction hm with
  | nil => intro j; exact .nil
  | cons a b c ih =>
    intro j
    cases j with
    | zero => exact .cons h1 h2 c
    | succ j => exact .cons a b (ih j)
theorem mup_ok (inv : Inv ρ w h) {t : TypeId} {x key d : DV} {e : Eff} (hd : mup P t x key d h = some e) {vx vk vd : Value} (hx : DR w h ρ x vx) (hkk : DR w h ρ key vk) (hdv : DR w h ρ d vd) :
    ∃ w', (Instr.mapUpdate t vx vk vd).run P w = .ok () w' ∧ Stp ρ w h ρ w' (applyUp h e.up) ∧ Inv ρ w' (applyUp h e.up) ∧ e.dv = udf := by
  unfold mup at hd
  split at hd
  · rename_i kt el ks i k hmt
    obtain ⟨hu, hks⟩ := mapT_run hmt
    split at hd
    · rename_i hok
      obtain ⟨hok, hself⟩ := hok
      split at hd
      · rename_i es ho
        simp only [DRep] at hx
        obtain ⟨_, rfl⟩ := hx
        obtain ⟨_, _, hor⟩ := inv.obj _ _ ho
        simp only [OR] at hor
        obtain ⟨en, ck, mss, hg, hkp, hmr⟩ := hor
        have hpm := hkp.1
        have hck : ∀ em, (Instr.checkKey em 10000 kt vk).run P w = .ok () w := by
          cases hse : eqK ks k k with
          | none => rw [hse] at hself; cases hself
          | some r => exact fun em => check_ok hks hok hse hkk em
        split at hd
        · rename_i j d' hf
          cases hd
          rcases findKey_ok hks hok hkk hpm hmr hf with ⟨h1, _⟩ | ⟨j', d', m, jj, h1, hmj, hm, _, hst, hq⟩
          · cases h1
          · cases h1
            have hm' : en[jj]? = some m := by simpa using hm
            have hmod : (en.modify jj fun e => { e with key := vk, val := vd }).toList = en.toList.set jj { m with key := vk, val := vd } := by
              apply List.ext_getElem?
              intro n
              rw [← Array.getElem?_toList] at hm'
              simp only [Array.toList_modify, List.getElem?_modify, List.getElem?_set]
              by_cases e : jj = n
              · subst e
                have := (List.getElem?_eq_some_iff.1 hm').1
                simp [hm', this]
                simpa using this
              · simp [e]
            obtain ⟨s, i2⟩ := write_map (en' := en.modify jj fun e => { e with key := vk, val := vd }) (ck' := ck) inv ho hg (es' := es.set j (k, d)) (ms' := mss.set j { m with key := vk, val := vd }) (by
                have hb : (en.toList.set jj { m with key := vk, val := vd }).map (·.born) = en.toList.map (·.born) := by
                  rw [List.map_set]
                  apply List.ext_getElem?
                  intro n
                  rw [List.getElem?_set]
                  split
                  · rename_i e
                    subst e
                    have hl : jj < en.toList.length := (List.getElem?_eq_some_iff.1 hm).1
                    rw [if_pos (by simpa using hl), List.getElem?_map, hm]
                    rfl
                  · rfl
                refine ⟨by rw [hmod]; exact perm_set hpm hm hmj, fun x hx => ?_, by rw [hmod, hb]; exact hkp.2.2⟩
                rw [hmod] at hx
                have h2 := List.mem_map_of_mem (f := (·.born)) hx
                rw [hb, List.mem_map] at h2
                obtain ⟨y, hy, e⟩ := h2
                rw [← e]
                exact hkp.2.1 y hy) (hmr.set (e := (k, d)) (m := { m with key := vk, val := vd }) hkk hdv j)
            refine ⟨_, ?_, s, i2, rfl⟩
            simp only [Instr.mapUpdate, Sem.run_bind, run_underlying hu, Result.andThen_ok, getObj_map hg, hck, hq, hm', Option.map_some, Option.getD_some, hst, MapKept.run_setObj_map _ hg]
        · rename_i hf
          cases hd
          have hq : (Instr.findKey kt vk en.toList).run P w = .ok none w := by
            rcases findKey_ok hks hok hkk hpm hmr hf with ⟨_, h1⟩ | ⟨j', d', m, jj, h1, _⟩
            · exact h1
            · cases h1
          obtain ⟨s, i2⟩ := write_map (en' := en.push { key := vk, val := vd, born := ck }) (ck' := ck + 1) inv ho hg (es' := es ++ [(k, d)]) (ms' := mss ++ [{ key := vk, val := vd, born := ck }]) (by
            refine ⟨by rw [Array.toList_push]; exact hpm.append_right _, fun x hx => ?_, ?_⟩
            · rw [Array.toList_push, List.mem_append, List.mem_singleton] at hx
              rcases hx with hx | rfl
              · exact Nat.lt_succ_of_lt (hkp.2.1 x hx)
              · exact Nat.lt_succ_self _
            · rw [Array.toList_push, List.map_append, List.nodup_append]
              refine ⟨hkp.2.2, by simp, fun a ha b hb => ?_⟩
              rw [List.mem_map] at ha
              obtain ⟨y, hy, rfl⟩ := ha
              simp only [List.map_cons, List.map_nil, List.mem_singleton] at hb
              rw [hb]
              exact Nat.ne_of_lt (hkp.2.1 y hy)) (hmr.append (.cons hkk hdv .nil))
          refine ⟨_, ?_, s, i2, rfl⟩
          simp only [Instr.mapUpdate, Sem.run_bind, run_underlying hu, Result.andThen_ok, getObj_map hg, hck, hq, MapKept.run_setObj_map _ hg]
        · cases hd
      · cases hd
    · cases hd
  · cases hd
end
end Go.Proofs.YtddmnddocbmjnaaGreat.Dv
namespace Go.Proofs.YtddmnddocbmjnaaGreat.Dv
open Go.RowKit
section
variable {P : Program} {ρ : Rho} {w : World} {h : PT AObj}
theorem snapL_L {f : DV → Option (PDV × List Nat)} {G : Addr → Value → Prop} : ∀ {l : List DV} {ps : List PDV} {rd : List Nat}, snapL f l = some (ps, rd) →
    (∀ d ∈ l, ∀ q r, f d = some (q, r) → (∀ i ∈ r, i ∈ rd) → ∀ v, DR w h ρ d v → PRep G q v) → ∀ {vs : List Value}, DRL w h ρ l vs → PRepL G ps vs
  | [], ps, rd, hs, _, vs, hv => by
    simp only [snapL] at hs
    cases hs
    simp only [DRepL] at hv
    subst hv
    simp [PRepL]
  | d :: ds, ps, rd, hs, hf, vs, hv => by
    simp only [snapL] at hs
    split at hs
    · cases hs
    · rename_i x r hx
      split at hs
      · cases hs
      · rename_i xs rs hxs
        cases hs
        simp only [DRepL] at hv
        obtain ⟨y, ys, rfl, hsc, h1, h2⟩ := hv
        simp only [PRepL]
        exact ⟨y, ys, rfl, hsc, hf d (by simp) x r hx (fun i hi => List.mem_append_left _ hi) y h1, snapL_L hxs (fun d' hd' q r' hq hr => hf d' (by simp [hd']) q r' hq (fun i hi => List.mem_append_right _ (hr i hi))) h2⟩
theorem snapL_T {f : DV → Option (PDV × List Nat)} {G : Addr → Value → Prop} : ∀ {l : List DV} {ps : List PDV} {rd : List Nat}, snapL f l = some (ps, rd) →
    (∀ d ∈ l, ∀ q r, f d = some (q, r) → (∀ i ∈ r, i ∈ rd) → ∀ v, DR w h ρ d v → PRep G q v) → ∀ {vs : List Value}, DRT w h ρ l vs → PRepT G ps vs
  | [], ps, rd, hs, _, vs, hv => by
    simp only [snapL] at hs
    cases hs
    simp only [DRepT] at hv
    subst hv
    simp [PRepT]
  | d :: ds, ps, rd, hs, hf, vs, hv => by
    simp only [snapL] at hs
    split at hs
    · cases hs
    · rename_i x r hx
      split at hs
      · cases hs
      · rename_i xs rs hxs
        cases hs
        simp only [DRepT] at hv
        obtain ⟨y, ys, rfl, h1, h2⟩ := hv
        simp only [PRepT]
        exact ⟨y, ys, rfl, hf d (by simp) x r hx (fun i hi => List.mem_append_left _ hi) y h1, snapL_T hxs (fun d' hd' q r' hq hr => hf d' (by simp [hd']) q r' hq (fun i hi => List.mem_append_right _ (hr i hi))) h2⟩
theorem snapF_ok (inv : Inv ρ w h) {G : Addr → Value → Prop} (hG1 : ∀ a v, Fx w (Wf h ρ) a v → G a v) : ∀ (n : Nat) {d : DV} {q : PDV} {rd : List Nat}, snapF h n d = some (q, rd) →
    (∀ i ∈ rd, ∀ cs fz, h.get i = some (.cells cs fz) → ∀ o v, ρ.st i ≤ o → w.cell? ⟨ρ.blk i, o, none⟩ = some v → G ⟨ρ.blk i, o, none⟩ v) → ∀ {v : Value}, DR w h ρ d v → PRep G q v
  | 0, d, q, rd, hs, _, v, hv => by simp [snapF] at hs
  | n + 1, d, q, rd, hs, hG2, v, hv => by
    have rcc : ∀ (d : DV) (q : PDV) (r : List Nat), snapF h n d = some (q, r) → (∀ i ∈ r, i ∈ rd) → ∀ v, DR w h ρ d v → PRep G q v := fun d q r hq hr v hv => snapF_ok inv hG1 n hq (fun i hi => hG2 i (hr i hi)) hv
    cases d with
    | p d =>
      simp only [snapF] at hs
      cases hs
      simp only [DRep] at hv
      exact PRep.mono hG1 _ _ hv
    | ow id l =>
      simp only [snapF] at hs
      cases hs
      simp only [DRep] at hv
      exact PRep.mono hG1 _ _ hv.2.1
    | nil =>
      simp only [snapF] at hs
      cases hs
      simp only [DRep] at hv
      subst hv
      simp only [PRep]
      exact ⟨none, 0, 0, rfl, Nat.le_refl _, fun _ => rfl, by simp [PRepE]⟩
    | zc =>
      simp only [snapF] at hs
      cases hs
      simp only [DRep] at hv
      obtain ⟨a, rfl⟩ := hv
      simp only [PRep]
      exact ⟨a, 0, 0, rfl, Nat.le_refl _, fun _ => rfl, by simp [PRepE]⟩
    | agg l =>
      simp only [snapF] at hs
      cases hl : snapL (snapF h n) l with
      | none => rw [hl] at hs; cases hs
      | some r =>
        rw [hl] at hs
        cases hs
        simp only [DRep] at hv
        obtain ⟨xs, rfl, hx⟩ := hv
        simp only [PRep]
        exact ⟨xs, rfl, snapL_L hl (fun d _ q r' hq hr v hv => rcc d q r' hq hr v hv) hx⟩
    | tup l =>
      simp only [snapF] at hs
      cases hl : snapL (snapF h n) l with
      | none => rw [hl] at hs; cases hs
      | some r =>
        rw [hl] at hs
        cases hs
        simp only [DRep] at hv
        obtain ⟨xs, rfl, hx⟩ := hv
        simp only [PRep]
        exact ⟨xs, rfl, snapL_T hl (fun d _ q r' hq hr v hv => rcc d q r' hq hr v hv) hx⟩
    | clo fn a b =>
      simp only [snapF] at hs
      split at hs
      · rename_i x r y q' hx hy
        cases hs
        simp only [DRep] at hv
        obtain ⟨f, c, rfl, h1, h2⟩ := hv
        simp only [PRep]
        exact ⟨f, c, rfl, snapL_T hx (fun d _ q r' hq hr v hv => rcc d q r' hq (fun i hi => List.mem_append_left _ (hr i hi)) v hv) h1, snapL_T hy (fun d _ q r' hq hr v hv => rcc d q r' hq (fun i hi => List.mem_append_right _ (hr i hi)) v hv) h2⟩
      · cases hs
    | mp id off =>
      simp only [snapF] at hs
      split at hs
      · rename_i cs fz ho
        cases hl : snapL (snapF h n) (cs.drop off) with
        | none => rw [hl] at hs; cases hs
        | some r =>
          rw [hl] at hs
          cases hs
          simp only [DRep] at hv
          obtain ⟨_, rfl⟩ := hv
          obtain ⟨_, arr, T, vs, h1, h2, h3, h4, h5⟩ := obj_cells inv ho
          simp only [PRep]
          refine ⟨_, vs.drop off, rfl, snapL_L hl (fun d _ q r' hq hr v hv => rcc d q r' hq (fun i hi => List.mem_cons_of_mem _ (hr i hi)) v hv) (h3.drop off), fun j v hj => ?_⟩
          rw [add_lit0]
          rw [List.getElem?_drop] at hj
          refine hG2 id (by simp) cs fz ho _ v (by omega) ?_
          have := h5 _ _ hj
          rwa [Nat.add_assoc]
      · cases hs
    | ms id off len av es =>
      simp only [snapF] at hs
      split at hs
      · rename_i cs fz ho
        cases hl : snapL (snapF h n) ((cs.drop off).take (len * es.getD 1)) with
        | none => rw [hl] at hs; cases hs
        | some r =>
          rw [hl] at hs
          simp only [Option.bind_some] at hs
          split at hs
          · rename_i hc
            obtain ⟨hpos, hlen⟩ := hc
            cases hs
            simp only [DRep] at hv
            obtain ⟨_, c, rfl, hla, hac, hcap⟩ := hv
            obtain ⟨_, arr, T, vs, h1, h2, h3, h4, h5⟩ := obj_cells inv ho
            have hpl := snapL_L hl (fun d _ q r' hq hr v hv => rcc d q r' hq (fun i hi => List.mem_cons_of_mem _ (hr i hi)) v hv) ((h3.drop off).take (len * es.getD 1))
            have hel := elems_ok (es := es) hpos (ad := ⟨ρ.blk id, ρ.st id + off, none⟩) (o := 0) len hpl hlen (fun j v hj => by
              rw [add_lit0]
              rw [List.getElem?_take] at hj
              split at hj
              · rw [List.getElem?_drop] at hj
                refine hG2 id (by simp) cs fz ho _ v (by omega) ?_
                have := h5 _ _ hj
                rwa [show ρ.st id + off + (0 + j) = ρ.st id + (off + j) by omega]
              · cases hj)
            change PRep G (.lst (elems es len r.1)) _
            simp only [PRep]
            exact ⟨_, c, esK es, by rw [hel.2], by rw [hel.2]; omega, (fun e => by cases e), hel.1⟩
          · cases hs
      · cases hs
    | mm id => simp [snapF] at hs
    | any => simp [snapF] at hs
theorem PRep.noref0 {F G : Addr → Value → Prop} (d : PDV) : ∀ (x : Value), d.ref = false → PRep F d x → PRep G d x := by
  refine PDV.rec (motive_1 := fun d => ∀ x, d.ref = false → PRep F d x → PRep G d x) (motive_2 := fun l => (∀ xs, PDV.refL l = false → PRepL F l xs → PRepL G l xs) ∧ (∀ xs, PDV.refL l = false → PRepT F l xs → PRepT G l xs)) ?_ ?_ ?_ ?_ ?_ ?_ ?_ ?_ d
  · intro v x _ hx
    simpa [PRep] using hx
  · intro l ih x hr hx
    simp only [PRep] at hx ⊢
    obtain ⟨xs, e, h⟩ := hx
    exact ⟨xs, e, ih.1 xs (by simpa [PDV.ref] using hr) h⟩
  · intro l ih x hr hx
    simp only [PDV.ref] at hr
    have : l = [] := by cases l <;> simp_all
    subst this
    simp only [PRep] at hx ⊢
    obtain ⟨a, c, sz, e, h1, h2, _⟩ := hx
    exact ⟨a, c, sz, e, h1, h2, by simp [PRepE]⟩
  · intro l ih x hr hx
    simp [PDV.ref] at hr
  · intro fn a b iha ihb x hr hx
    simp only [PDV.ref, Bool.or_eq_false_iff] at hr
    simp only [PRep] at hx ⊢
    obtain ⟨f, c, e, h1, h2⟩ := hx
    exact ⟨f, c, e, iha.2 f hr.1 h1, ihb.2 c hr.2 h2⟩
  · intro l ih x hr hx
    simp only [PRep] at hx ⊢
    obtain ⟨xs, e, h⟩ := hx
    exact ⟨xs, e, ih.2 xs (by simpa [PDV.ref] using hr) h⟩
  · exact ⟨fun xs _ h => by simpa [PRepL] using h, fun xs _ h => by simpa [PRepT] using h⟩
  · intro d ds ihd ihl
    refine ⟨fun xs hr hx => ?_, fun xs hr hx => ?_⟩
    · simp only [PDV.refL, Bool.or_eq_false_iff] at hr
      simp only [PRepL] at hx ⊢
      obtain ⟨y, ys, e, hs, h1, h2⟩ := hx
      exact ⟨y, ys, e, hs, ihd y hr.1 h1, ihl.1 ys hr.2 h2⟩
    · simp only [PDV.refL, Bool.or_eq_false_iff] at hr
      simp only [PRepT] at hx ⊢
      obtain ⟨y, ys, e, h1, h2⟩ := hx
      exact ⟨y, ys, e, ihd y hr.1 h1, ihl.2 ys hr.2 h2⟩
theorem PRep.noref {F G : Addr → Value → Prop} {d : PDV} {x : Value} (hr : d.ref = false) (hx : PRep F d x) : PRep G d x := PRep.noref0 d x hr hx
theorem PRepL.noref {F G : Addr → Value → Prop} : ∀ {l : List PDV} {xs : List Value}, PDV.refL l = false → PRepL F l xs → PRepL G l xs
  | [], xs, _, h => by simpa [PRepL] using h
  | d :: ds, xs, hr, h => by
    simp only [PDV.refL, Bool.or_eq_false_iff] at hr
    simp only [PRepL] at h ⊢
    obtain ⟨y, ys, e, hs, h1, h2⟩ := h
    exact ⟨y, ys, e, hs, PRep.noref hr.1 h1, PRepL.noref hr.2 h2⟩
theorem freeze_ok : ∀ (is : List Nat) {h' : PT AObj}, Inv ρ w h' → (∀ j, h'.get j = h.get j ∨ ∃ cs fz, h.get j = some (.cells cs fz) ∧ h'.get j = some (.cells cs true)) →
    Stp ρ w h' ρ w (applyUp h' (freeze h is)) ∧ Inv ρ w (applyUp h' (freeze h is)) ∧ (∀ j, (applyUp h' (freeze h is)).get j = h.get j ∨ ∃ cs fz, h.get j = some (.cells cs fz) ∧ (applyUp h' (freeze h is)).get j = some (.cells cs true)) ∧
      ∀ i, (i ∈ is ∨ ∃ cs, h'.get i = some (.cells cs true)) → ∀ cs fz, h.get i = some (.cells cs fz) → (applyUp h' (freeze h is)).get i = some (.cells cs true)
  | [], h', inv, hh => ⟨Stp.refl _ _ _, inv, hh, fun i hi cs fz ho => by
      rcases hi with hi | ⟨cs', hi⟩
      · cases hi
      · simp only [freeze, applyUp]
        rcases hh i with e | ⟨cs2, fz2, e1, e2⟩
        · rw [e, ho] at hi; cases hi; rw [e, ho]
        · rw [ho] at e1; cases e1; exact e2⟩
  | i :: is, h', inv, hh => by
    simp only [freeze]
    split
    · rename_i cs fz ho
      have ho' : ∃ fz', h'.get i = some (.cells cs fz') := by
        rcases hh i with e | ⟨cs2, fz2, e1, e2⟩
        · exact ⟨fz, by rw [e, ho]⟩
        · rw [ho] at e1; cases e1; exact ⟨true, e2⟩
      obtain ⟨fz', ho'⟩ := ho'
      obtain ⟨s1, i1⟩ := freeze1_ok inv ho'
      obtain ⟨s2, i2, h3, h4⟩ := freeze_ok is i1 (fun j => by
        by_cases e : i = j
        · subst e
          exact .inr ⟨cs, fz, ho, by simp⟩
        · rw [PT.get_set_ne _ _ e]; exact hh j)
      simp only [applyUp]
      refine ⟨s1.trans s2, i2, h3, fun j hj cs2 fz2 ho2 => h4 j ?_ cs2 fz2 ho2⟩
      by_cases e : i = j
      · subst e; exact .inr ⟨cs, by simp⟩
      · rcases hj with hj | ⟨cs3, hj⟩
        · rcases List.mem_cons.1 hj with hj | hj
          · exact absurd hj.symm e
          · exact .inl hj
        · exact .inr ⟨cs3, by rw [PT.get_set_ne _ _ e]; exact hj⟩
    · rename_i hno
      obtain ⟨s2, i2, h3, h4⟩ := freeze_ok is inv hh
      refine ⟨s2, i2, h3, fun j hj cs2 fz2 ho2 => ?_⟩
      rcases hj with hj | hj
      · rcases List.mem_cons.1 hj with hj | hj
        · subst hj; exact absurd ho2 (hno cs2 fz2)
        · exact h4 j (.inl hj) cs2 fz2 ho2
      · exact h4 j (.inr hj) cs2 fz2 ho2
end
end Go.Proofs.YtddmnddocbmjnaaGreat.Dv
