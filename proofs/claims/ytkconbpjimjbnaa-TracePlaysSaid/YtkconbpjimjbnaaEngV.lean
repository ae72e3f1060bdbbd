/- Stores. -/
import Derived.Test.YtkconbpjimjbnaaEngU
namespace Go.Eng
open Go Go.RowKit

def DoesU (P : Program) (c : Cx) (s : Sem Unit) (m' : Mem) : Prop := ∃ c', s.run P c.w = .ok () c'.w ∧ Ext c c' ∧ MemOk c' m'

theorem splice_get {α : Type} (l ys : List α) (o p : Nat) (h : o + ys.length ≤ l.length) : (splice l o ys)[p]? = if o ≤ p ∧ p < o + ys.length then ys[p - o]? else l[p]? := by
  have e : (l.take o).length = o := by simp; omega
  unfold splice
  rw [List.append_assoc, List.getElem?_append, e]
  split
  · rename_i h1
    rw [if_neg (by omega), List.getElem?_take, if_pos h1]
  · rename_i h1
    rw [List.getElem?_append]
    split
    · rename_i h2
      rw [if_pos ⟨by omega, by omega⟩]
    · rename_i h2
      rw [if_neg (by omega), List.getElem?_drop]
      congr 1; omega

theorem splice_length {α : Type} (l ys : List α) (o : Nat) (h : o + ys.length ≤ l.length) : (splice l o ys).length = l.length := by
  simp only [splice, List.length_append, List.length_take, List.length_drop]
  omega

theorem run_storeAt {P : Program} {T : Tab} (hT : TabOk P T) {t : TypeId} {ti : TI} (ht : T t = some ti) {w : World} {b o : Nat} {v : Value} {cur : Array Value} {ty : TypeId} {fz : Nat × Nat} (hh : w.heap[b]? = some (.cells cur ty fz)) (hf : NoFrz cur.size fz)
    (hs : v.cells.size = ti.size) (hl : o + ti.size ≤ cur.size) (h1 : ∀ u ∈ v.cells.toList, u.oneCell' = true) :
    (Instr.storeAt t (.pointer (some ⟨b, o, none⟩)) v).run P w = .ok () (w.setRow b (splice cur.toList o v.cells.toList).toArray) := by
  obtain ⟨_, _, _, f⟩ := hT.facts ht
  have := run_stores P b o ty fz v.cells.toList 0 cur w hh hf (by simp only [Nat.add_zero, Array.length_toList, hs]; exact hl) h1
  simp only [Nat.add_zero] at this
  have hne : ¬ (v.cells.size ≠ ti.size) := fun h => h hs
  simp only [Instr.storeAt, Instr.sureAddr, storeVar, Sem.run_bind, Sem.run_pure, Result.andThen_ok, f.sizeOf, if_neg hne, this]

/-- a write into one's own block -/
def Cx.put (c : Cx) (b : Nat) (row : Array Value) (tk : Nat) : Cx := { c with w := c.w.setRow b row, ep := c.ep + tk }

theorem Cx.put_put {c : Cx} {m : Mem} (hm : MemOk c m) {b : Nat} {cur row : Array Value} {ty : TypeId} {fz : Nat × Nat} {who : Who} (hh : c.w.heap[b]? = some (.cells cur ty fz)) (hr : row.size = cur.size) (ho : c.own b = some who) (hlv : c.lv b = 0) (tk : Nat)
    (hw : tk = 0 → ∀ g, who ≠ .gobj g) : Put c (c.put b row tk) b cur row ty fz :=
  ⟨hh, rfl, hr, fun o h => by rw [hlv] at h; omega, fun _ _ => rfl, Nat.le_refl _, fun _ _ => rfl, by rw [ho]; simp, fun _ _ h => h, fun _ _ _ => rfl, rfl, Nat.le_add_right _ _, fun he g hg => by
    have h1 := hm.bgown hg
    rw [ho] at h1
    injection h1 with h1
    have : tk = 0 := by
      simp only [Cx.put] at he
      omega
    exact absurd h1 (hw this g)⟩

theorem rowC_put {c c' : Cx} (hx0 : Ext c c') {sz k off : Nat} {rs : Row} {e : List D} {ds : List D} {vs : List Value} {cur : Array Value} (h : RowC c sz rs cur) (hk : rs[k]? = some e) (hoff : off + ds.length ≤ e.length)
    (hd : All2 (fun d v => RD c'.w c'.lv d v) ds vs) (hcur : rs.length * sz ≤ cur.size) : RowC c' sz (rs.set k (splice e off ds)) (splice cur.toList (k * sz + off) vs).toArray := by
  have hel := h.hsz e (List.mem_of_getElem? hk)
  have hkl := (List.getElem?_eq_some_iff.1 hk).1
  have hvl := hd.length
  have hfit : k * sz + off + vs.length ≤ cur.toList.length := by
    have h1 : (k + 1) * sz ≤ rs.length * sz := Nat.mul_le_mul_right _ hkl
    rw [Nat.add_mul] at h1
    simp only [Array.length_toList]
    omega
  have hspl := splice_length e ds off hoff
  refine ⟨fun x hx => ?_, fun k' x j d hx hdj => ?_⟩
  · rcases List.mem_or_eq_of_mem_set hx with hx | rfl
    · exact h.hsz x hx
    · rw [hspl]; exact hel
  · rw [List.getElem?_toArray, splice_get _ _ _ _ hfit]
    rw [set_get] at hx
    split at hx
    · rename_i h1
      obtain ⟨rfl, _⟩ := h1
      simp only [Option.some.injEq] at hx
      subst hx
      rw [splice_get _ _ _ _ hoff] at hdj
      split at hdj
      · rename_i h2
        obtain ⟨v, z1, z2⟩ := hd.get _ _ hdj
        refine ⟨v, ?_, z2⟩
        rw [if_pos ⟨by omega, by omega⟩, ← z1]
        congr 1; omega
      · rename_i h2
        obtain ⟨v, z1, z2⟩ := h.hc k e j d hk hdj
        refine ⟨v, ?_, z2.stay hx0.stay⟩
        rw [if_neg (by omega), Array.getElem?_toList]
        exact z1
    · rename_i h1
      obtain ⟨v, z1, z2⟩ := h.hc k' x j d hx hdj
      refine ⟨v, ?_, z2.stay hx0.stay⟩
      have hxl := h.hsz x (List.mem_of_getElem? hx)
      have hjl := (List.getElem?_eq_some_iff.1 hdj).1
      have hne : k ≠ k' := fun e => h1 ⟨e, hkl⟩
      rw [if_neg ?_, Array.getElem?_toList]
      · exact z1
      · intro ⟨q1, q2⟩
        rcases Nat.lt_or_gt_of_ne hne with hlt | hlt
        · have : (k + 1) * sz ≤ k' * sz := Nat.mul_le_mul_right _ hlt
          rw [Nat.add_mul] at this
          omega
        · have : (k' + 1) * sz ≤ k * sz := Nat.mul_le_mul_right _ hlt
          rw [Nat.add_mul] at this
          omega

theorem store_row {P : Program} {T : Tab} {c : Cx} {m : Mem} (hT : TabOk P T) (hm : MemOk c m) {t : TypeId} {ti : TI} (ht : T t = some ti) {who : Who} (hw : ∀ g, who ≠ .gobj g) {b cap sz k off : Nat} {rs : Row} {e ds : List D} {v : Value}
    (hr : RowOk c who b cap sz rs .excl) (hk : rs[k]? = some e) (hoff : off + ti.size ≤ e.length) (hd : All2 (fun d v => RD c.w c.lv d v) ds v.cells.toList) (hs : v.cells.size = ti.size) :
    ∃ row cur ety fz, (Instr.storeAt t (.pointer (some ⟨b, k * sz + off, none⟩)) v).run P c.w = .ok () (c.put b row 0).w ∧ Put c (c.put b row 0) b cur row ety fz ∧ RowOk (c.put b row 0) who b cap sz (rs.set k (splice e off ds)) .excl := by
  obtain ⟨⟨cur, ety, fz, h1, h2, h3, h4, h4'⟩, h5, h6, h7, h8, h9, h10⟩ := hr
  have hel := h4.hsz e (List.mem_of_getElem? hk)
  have hkl := (List.getElem?_eq_some_iff.1 hk).1
  have hcur : rs.length * sz ≤ cur.size := Nat.le_trans (Nat.mul_le_mul_right _ h5) h3
  have hdl : ds.length = ti.size := by have := hd.length; simp only [Array.length_toList] at this; omega
  have h11 : (k + 1) * sz ≤ rs.length * sz := Nat.mul_le_mul_right _ hkl
  rw [Nat.add_mul] at h11
  have hone : ∀ u ∈ v.cells.toList, u.oneCell' = true := fun u hu => by
    obtain ⟨j, hj⟩ := List.getElem?_of_mem hu
    have hjl := (List.getElem?_eq_some_iff.1 hj).1
    have hdj : ds[j]? = some (ds[j]'(by have := hd.length; omega)) := by simp
    obtain ⟨u', z1, z2⟩ := hd.get j _ hdj
    rw [hj] at z1
    injection z1 with z1
    rw [z1]; exact z2.oneCell
  have hrun := run_storeAt (P := P) hT ht h1 h2 hs (o := k * sz + off) (by omega) hone
  obtain ⟨row, hrow⟩ : ∃ r, r = (splice cur.toList (k * sz + off) v.cells.toList).toArray := ⟨_, rfl⟩
  rw [← hrow] at hrun
  have hrs : row.size = cur.size := by
    rw [hrow, List.size_toArray, splice_length _ _ _ (by simp only [Array.length_toList]; omega), Array.length_toList]
  have p := Cx.put_put hm (row := row) h1 hrs h8 (by simpa [Mode.lv] using h10) 0 (fun _ => hw)
  refine ⟨row, cur, ety, fz, hrun, p, ⟨row, ety, fz, p.at, by rw [hrs]; exact h2, by rw [hrs]; exact h3, ?_, ?_⟩, by simpa using h5, h6, h7, h8, h9, h10⟩
  · have q := rowC_put p.ext h4 hk (by rw [hdl]; exact hoff) (hd.mono fun d u hu => hu.stay p.ext.stay) hcur
    rw [← hrow] at q
    exact q
  · intro u hu
    rw [hrow] at hu
    simp only [splice, List.mem_append] at hu
    rcases hu with (hu | hu) | hu
    · exact h4' u (List.mem_of_mem_take hu)
    · exact hone u hu
    · exact h4' u (List.mem_of_mem_drop hu)

theorem store_ok {P : Program} {T : Tab} {c : Cx} {m m' : Mem} (hT : TabOk P T) (hm : MemOk c m) {t : TypeId} {A X : AV} {a v : Value} (h : store T m t A X = some m') (ha : VL c A a) (hv : VL c X v) : DoesU P c (Instr.storeAt t a v) m' := by
  unfold store at h
  split at h
  · rename_i ti hti
    obtain ⟨_, _, _, f⟩ := hT.facts hti
    split at h
    · rename_i xs m0 hk0
      obtain ⟨c1, g1, hm1, hxs⟩ := mapS_keep hk0 hm hv.vals
      split at h
      · rename_i hcond
        obtain ⟨hxl, hleaf⟩ := hcond
        have hcells := vals_cells hxs hleaf
        rw [← hcells] at hxs
        have hsz : v.cells.size = ti.size := by
          have := hxs.length
          simp only [Array.length_toList] at this
          omega
        have hone : ∀ u ∈ v.cells.toList, u.oneCell' = true := fun u hu => (all2_one hxs hleaf u hu).2
        have ha1 := ha.ext g1.ext
        split at h
        · -- an object
          rename_i r off
          split at h
          · -- one's own
            rename_i i hres
            obtain rfl := res_loc hres
            split at h
            · rename_i cs hget
              have hi := get_loc hget
              split at h
              · rename_i hfit
                injection h with h
                subst h
                obtain ⟨b, cur, ty, k1, k2, k3, k4, k5⟩ := hm1.l _ _ hi
                cases ha1 with
                | ptrl hb =>
                  have : some b = some _ := k1.symm.trans hb
                  injection this with this
                  subst this
                  have hcl := k5.1
                  have hrun := run_storeAt (P := P) hT hti k2 (by intro k _; omega) hsz (o := off) (by omega) hone
                  obtain ⟨row, hrow⟩ : ∃ r, r = (splice cur.toList off v.cells.toList).toArray := ⟨_, rfl⟩
                  rw [← hrow] at hrun
                  have hrs : row.size = cur.size := by
                    rw [hrow, List.size_toArray, splice_length _ _ _ (by simp only [Array.length_toList]; omega), Array.length_toList]
                  have p := Cx.put_put hm1 (row := row) k2 hrs k3 k4 0 (fun _ g e => by cases e)
                  refine ⟨_, by rw [← g1.w]; exact hrun, g1.ext.trans p.ext, ?_⟩
                  refine hm1.setL hi p.ext (p.wf hm1.wf) rfl rfl rfl (fun who hw => p.same (by rw [k3]; simpa using fun e => hw e.symm)) ⟨b, row, ty, k1, p.at, k3, k4, ?_⟩
                  have hall : All2 (VL c1) cs cur.toList := All2.of (by simpa using hcl) fun j a ha v hv => by
                    obtain ⟨v', q1, q2⟩ := k5.2 j a ha
                    rw [Array.getElem?_toList, q1] at hv
                    injection hv with hv
                    rw [← hv]; exact q2
                  have hsp := p.ext.all2 (hall.splice hxs off)
                  refine ⟨by rw [splice_length _ _ _ (by omega), hrs]; exact hcl, fun j a ha => ?_⟩
                  obtain ⟨v', q1, q2⟩ := hsp.get j a ha
                  exact ⟨v', by rw [hrow, List.getElem?_toArray]; exact q1, q2⟩
              · cases h
            · cases h
          · -- everybody's
            rename_i g hres
            split at h
            · rename_i ys m1 hgive
              obtain ⟨c2, g2, q1, q2⟩ := giveL_ok (give_ok 2) xs v.cells.toList ys c1 m0 m1 g off hgive hm1 hxs
              split at h
              · rename_i cs hget
                have hG : m1.G[g]? = some (.obj cs) := hget
                split at h
                · rename_i hfit
                  injection h with h
                  subst h
                  have ha2 := (res_glob hm1 hres ha1).ext g2.gh.ext
                  obtain ⟨b, cur, ty, k1, k2, k3, k4, k5, k6⟩ := g2.ok.g _ _ hG
                  cases ha2 with
                  | ptrg hb =>
                    have : some b = some _ := k1.symm.trans hb
                    injection this with this
                    subst this
                    have hrun := run_storeAt (P := P) hT hti k2 (by intro k _; omega) hsz (o := off) (by omega) hone
                    obtain ⟨row, hrow⟩ : ∃ r, r = (splice cur.toList off v.cells.toList).toArray := ⟨_, rfl⟩
                    rw [← hrow] at hrun
                    have hfc : off + v.cells.toList.length ≤ cur.toList.length := by simp only [Array.length_toList]; omega
                    have hyl : off + ys.length ≤ cs.length := by rw [q1]; simp only [Array.length_toList]; omega
                    have hrs : row.size = cur.size := by
                      rw [hrow, List.size_toArray, splice_length _ _ _ hfc, Array.length_toList]
                    have p := Cx.put_put g2.ok (row := row) k2 hrs k3 k4 1 (fun e => by cases e)
                    refine ⟨_, by rw [← g1.w, ← g2.gh.w]; exact hrun, (g1.ext.trans g2.gh.ext).trans p.ext, ?_⟩
                    have hs : ∀ who, who ≠ .gobj g → Same c2 (c2.put b row 1) who := fun who hw => p.same (by rw [k3]; simpa using fun e => hw e.symm)
                    refine g2.ok.of p.ext (p.wf g2.ok.wf) (by simp [Cx.put, Mem.tick, Mem.set, g2.ok.ep]) (fun k e hk => .inl ⟨hk, hs _ (by simp)⟩) (fun k hk => g2.ok.ln k hk) (fun k e hk => ?_) (fun k hk => by simp only [Mem.tick, Mem.set, List.length_set] at hk; exact g2.ok.gn k hk)
                    simp only [Mem.tick, Mem.set] at hk
                    rw [set_get] at hk
                    split at hk
                    · rename_i h1
                      obtain ⟨rfl, _⟩ := h1
                      simp only [Option.some.injEq] at hk
                      subst hk
                      right
                      refine ⟨b, row, ty, k1, p.at, k3, k4, by rw [splice_length _ _ _ hyl, hrs]; exact k5, fun j a ha => ?_⟩
                      rw [splice_get _ _ _ _ hyl] at ha
                      have hrg : row[j]? = (if off ≤ j ∧ j < off + v.cells.toList.length then v.cells.toList[j - off]? else cur.toList[j]?) := by rw [hrow, List.getElem?_toArray, splice_get _ _ _ _ hfc]
                      rw [hrg]
                      split at ha
                      · rename_i hin
                        obtain ⟨z1, u, z2, z3⟩ := q2 _ _ ha
                        refine ⟨z1, u, by rw [if_pos ⟨hin.1, by omega⟩]; exact z2, ?_⟩
                        have e : off + (j - off) = j := by omega
                        rw [e] at z3
                        exact z3.frame p.ext (hs (.grow g j) (by simp))
                      · rename_i hin
                        obtain ⟨z1, u, z2, z3⟩ := k6 _ _ ha
                        exact ⟨z1, u, by rw [if_neg (by omega), Array.getElem?_toList]; exact z2, z3.frame p.ext (hs (.grow g j) (by simp))⟩
                    · rename_i h1
                      have hgl := (List.getElem?_eq_some_iff.1 hG).1
                      exact .inl ⟨hk, hs _ (by simp; intro e; exact h1 ⟨e.symm, hgl⟩), fun j => hs _ (by simp)⟩
                · cases h
              · cases h
            · cases h
        · -- an element of a row of one's own
          rename_i i sz k off
          split at h
          · rename_i ds m1 hsn
            obtain ⟨c2, g2, hm2, hds⟩ := mapS_snap hsn hm1 hxs
            split at h
            · rename_i sz' rs hget
              split at h
              · rename_i hszz
                subst hszz
                split at h
                · rename_i e hke
                  split at h
                  · rename_i hfit
                    injection h with h
                    subst h
                    have hi := get_loc hget
                    obtain ⟨b, cap, k1, k2, k3⟩ := hm2.l _ _ hi
                    have ha2 := ha1.ext g2.ext
                    cases ha2 with
                    | ept hb =>
                      have : some b = some _ := k1.symm.trans hb
                      injection this with this
                      subst this
                      obtain ⟨row, cur, ety, fz, z1, p, z3⟩ := store_row (P := P) hT hm2 hti (who := .lent i) (fun g e => by cases e) k3 hke hfit hds hsz
                      refine ⟨_, by rw [← g1.w, ← g2.w]; exact z1, (g1.ext.trans g2.ext).trans p.ext, ?_⟩
                      exact hm2.setL hi p.ext (p.wf hm2.wf) rfl rfl rfl (fun who hw => p.same (by rw [k3.own]; simpa using fun e => hw e.symm)) ⟨b, cap, k1, by rw [List.length_set]; exact k2, z3⟩
                  · cases h
                · cases h
              · cases h
            · cases h
          · cases h
        · -- an element of a row in everybody's object
          rename_i g j ep sz k off
          split at h
          · rename_i ds m1 hsn
            obtain ⟨c2, g2, hm2, hds⟩ := mapS_snap hsn hm1 hxs
            split at h
            · rename_i sz' rs hget
              split at h
              · rename_i hszz
                subst hszz
                split at h
                · rename_i e hke
                  split at h
                  · rename_i hfit
                    injection h with h
                    subst h
                    have ha2 := ha1.ext g2.ext
                    obtain ⟨cs, b, cap, w1, w2, w3, rfl, w4⟩ := gept_row hm2 ha2 hget
                    obtain ⟨row, cur, ety, fz, z1, p, z3⟩ := store_row (P := P) hT hm2 hti (who := .grow g j) (fun g e => by cases e) w3 hke hfit hds hsz
                    refine ⟨_, by rw [← g1.w, ← g2.w]; exact z1, (g1.ext.trans g2.ext).trans p.ext, ?_⟩
                    refine hm2.setRow w1 w2 p.ext (p.wf hm2.wf) rfl rfl rfl (fun who hw => p.same (by rw [w3.own]; simpa using fun e => hw e.symm)) rfl ?_
                    intro bo v' y1 y2 _
                    refine ⟨b, cap, ?_, z3⟩
                    rw [w4 bo v' y1 y2, List.length_set]
                  · cases h
                · cases h
              · cases h
            · cases h
          · cases h
        · cases h
      · cases h
    · cases h
  · cases h

end Go.Eng
