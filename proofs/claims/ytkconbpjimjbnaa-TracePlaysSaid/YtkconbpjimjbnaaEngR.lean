/- Conversions; what is appended, copied, stored. -/
import Derived.Test.YtkconbpjimjbnaaEngQ
namespace Go.Eng
open Go Go.RowKit

theorem rowBytes_some : ∀ {xs : Row} {l : List UInt8}, rowBytes xs = some l → ∃ ns : List Int, xs = ns.map (fun n => [D.int .u8 n]) ∧ l = ns.map (fun n => UInt8.ofNat n.toNat)
  | [], l, h => by
    simp only [rowBytes, Option.some.injEq] at h
    exact ⟨[], rfl, h.symm⟩
  | x :: r, l, h => by
    unfold rowBytes at h
    split at h
    · rename_i heq; cases heq
    · rename_i n r' heq
      injection heq with e1 e2
      subst e1; subst e2
      cases hr : rowBytes r with
      | none => rw [hr] at h; cases h
      | some l' =>
        rw [hr] at h
        simp only [Option.map_some, Option.some.injEq] at h
        obtain ⟨ns, h1, h2⟩ := rowBytes_some hr
        exact ⟨n :: ns, by simp [h1], by simp [← h, h2]⟩
    · cases h

theorem byteRow_rowC {c : Cx} (l : List UInt8) (cur : Array Value) (h : ∀ (k : Nat) (b : UInt8), l[k]? = some b → cur[k]? = some (.int .u8 b.toNat)) : RowC c 1 (l.map byteRow) cur := by
  refine ⟨fun x hx => ?_, fun k x j d hx hd => ?_⟩
  · obtain ⟨b, _, rfl⟩ := List.mem_map.1 hx
    rfl
  · rw [List.getElem?_map] at hx
    cases hb : l[k]? with
    | none => rw [hb] at hx; cases hx
    | some b =>
      rw [hb] at hx
      simp only [Option.map_some, Option.some.injEq] at hx
      subst hx
      match j with
      | 0 =>
        simp only [byteRow, List.getElem?_cons_zero, Option.some.injEq] at hd
        subst hd
        exact ⟨_, by simpa using h k b hb, .int _ _⟩
      | j + 1 => simp [byteRow] at hd

theorem run_convert_bytes_void {P : Program} (w : World) (src dst e : TypeId) (a : Addr) (cap : Nat) (hs : P.underlying src = some (.slice e)) (he : P.underlying e = some (.int .u8)) (hd : P.underlying dst = some .string) :
    (Go.convert src dst (.slice (some a) 0 cap)).run P w = .ok (.string ByteArray.empty) w := by
  rw [run_convert_bytes_string w src dst e _ 0 cap hs he hd]
  simp [Conv.bytesToString, loadCells, loadCellsFrom]

theorem convert_ok {P : Program} {T : Tab} {c : Cx} {m m' : Mem} (hT : TabOk P T) (hm : MemOk c m) {i : Nat} (hi : m.L[i]? = some none) {src dst : TypeId} {X res : AV} {v : Value}
    (h : convert T m i src dst X = some (res, m')) (hx : VL c X v) : Does P c (Go.convert src dst v) m' res := by
  unfold convert at h
  obtain ⟨⟨a0, e0⟩, hq, h'⟩ := Option.map_eq_some_iff.1 h
  clear h
  simp only [Prod.mk.injEq] at h'
  obtain ⟨rfl, rfl⟩ := h'
  have h := hq
  clear hq
  unfold convertP at h
  split at h
  · cases h
  · rename_i ks hks
    obtain ⟨dsrc, hsu, hsk⟩ := kindT_under hT hks
    split at h
    · rename_i k hk
      have hu := kindT_int hT hk
      split at h
      · simp only [Option.some.injEq, Prod.mk.injEq] at h
        obtain ⟨rfl, rfl⟩ := h
        cases hx with | dat hx => cases hx with | int =>
        exact ⟨c, _, by simp [Go.convert, run_underlying hsu, run_underlying hu, Conv.intToInt], .refl _, hm, .dat (.int _ _)⟩
      · cases h
    · rename_i hk
      have hu := kindT_str hT hk
      split at h
      · simp only [Option.some.injEq, Prod.mk.injEq] at h
        obtain ⟨rfl, rfl⟩ := h
        cases hx with | dat hx => cases hx with | str =>
        exact ⟨c, _, by simp [Go.convert, run_underlying hsu, run_underlying hu], .refl _, hm, .dat (.str _)⟩
      · split at h
        · rename_i e
          have hse := kindT_slice hT hks
          split at h
          · rename_i he
            have heu := kindT_int hT he
            split at h
            · rename_i n sz xs hrd
              split at h
              · rename_i l hl
                split at h
                · rename_i hsz
                  simp only [Option.some.injEq, Prod.mk.injEq] at h
                  obtain ⟨rfl, rfl⟩ := h
                  obtain ⟨ns, rfl, rfl⟩ := rowBytes_some hl
                  rcases rd_ok hm hrd hx with ⟨_, hxs, rfl⟩ | ⟨a, cap, vs, rfl, hsp, hcap, hc⟩
                  · have hns : ns = [] := by simpa using hxs
                    subst hns
                    exact ⟨c, _, run_convert_bytes_nil c.w src e hse heu 0 0 dst hu, .refl _, hm, .dat (.str _)⟩
                  · by_cases hns : ns = []
                    · subst hns
                      refine ⟨c, _, run_convert_bytes_void c.w src dst e a cap hse heu hu, .refl _, hm, .dat (.str _)⟩
                    obtain ⟨b, o, sp⟩ := a
                    have hsp : sp = none := by
                      rcases hsp with h | ⟨h, _⟩
                      · exact h
                      · exact absurd (by simpa using h) hns
                    subst hsp
                    refine ⟨c, _, run_convert_bytes_arg c.w src e hse heu b o _ cap ns (by simp) (fun i hi => ?_) dst hu, .refl _, hm, ?_⟩
                    · have hi' : i < ns.length := by simpa using hi
                      have h1 : (ns.map (fun n => [D.int .u8 n]))[i]? = some [D.int .u8 ns[i]] := by simp
                      obtain ⟨v, q1, q2⟩ := hc.rd i _ 0 _ h1 rfl
                      have hs1 : sz = 1 := by
                        rcases hsz with h | h
                        · exact h
                        · simp at h; subst h; simp at hi'
                      subst hs1
                      have := hc.cell _ _ q1
                      cases q2
                      simp only [Nat.mul_one, Nat.add_zero] at this
                      rw [this]
                      simp [List.getD, hi']
                    · exact .dat (.str _)
                · cases h
              · cases h
            · cases h
          · cases h
        · cases h
    · rename_i e hk
      have hu := kindT_slice hT hk
      split at h
      · rename_i s
        split at h
        · rename_i he
          have heu := kindT_int hT he
          split at h
          · rename_i hsz
            simp only [Option.some.injEq, Prod.mk.injEq] at h
            obtain ⟨rfl, rfl⟩ := h
            cases hx with | dat hx => cases hx with | str =>
            have hrun := Lib.run_convert_string_bytes c.w src dst e s hsu hu heu
            have hge := grownCap_ge c.w s.size 0 e
            have hle := grownCap_le_maxLen c.w s.size 0 e (by unfold maxLen; omega)
            have hcs : (Lib.bytesCells c.w e s).size = grownCap c.w s.size 0 e := by
              have : s.data.size = s.size := rfl
              simp [Lib.bytesCells, this]; omega
            have hnew : NewW c.w (Lib.bytesWorld c.w e s) (Lib.bytesCells c.w e s) e ((Lib.bytesCells c.w e s).size, (Lib.bytesCells c.w e s).size + 1) :=
              ⟨rfl, rfl, rfl, Lib.bytesWorld_size c.w e s, fun x hx => Lib.bytesWorld_at_old c.w e s x hx, Lib.bytesWorld_at_new c.w e s⟩
            have hxl : (s.data.toList.map byteRow).length = s.size := by simp
            have hrow : RowC c 1 (s.data.toList.map byteRow) (Lib.bytesCells c.w e s) := by
              refine byteRow_rowC _ _ fun k b hb => ?_
              have hk := (List.getElem?_eq_some_iff.1 hb).1
              simp only [Array.length_toList] at hk
              have hb' : s.data[k]? = some b := by simpa using hb
              simp only [Lib.bytesCells]
              rw [Array.getElem?_append_left (by simpa using hk), Array.getElem?_map, hb']
              rfl
            have hone : ∀ v ∈ (Lib.bytesCells c.w e s).toList, v.oneCell' = true := by
              intro v hv
              simp only [Lib.bytesCells, Array.toList_append, List.mem_append, Array.toList_map, List.mem_map, Array.toList_replicate, List.mem_replicate] at hv
              rcases hv with ⟨b, _, rfl⟩ | ⟨_, rfl⟩ <;> rfl
            obtain ⟨r1, r2, r3⟩ := new_row (f := false) (md := .excl) (cap := grownCap c.w s.size 0 e) (n := 0) hm hi hnew (by intro k hk; omega) (by rw [hcs]; omega) hone hrow (by rw [hxl]; exact hge) hle (by omega) (by simp) (by simp) rfl
            rw [hxl] at r1 r2 r3
            exact ⟨_, _, hrun, r1, r2, r3⟩
          · cases h
        · cases h
      · cases h
    · cases h

end Go.Eng
