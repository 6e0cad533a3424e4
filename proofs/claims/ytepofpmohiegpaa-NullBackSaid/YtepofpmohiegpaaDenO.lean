/- Den, part O: make, conversions, the smaller and the greater. -/
import Derived.Test.YtepofpmohiegpaaDenN
import Derived.Lib.ConvBytes
import Derived.Laws.BytesArg
namespace Go.Den
variable {P : Program} {w0 w : World} {bl : List Nat} {D D' : Nat → Prop} {m : Nat → Option Ent} {G : Gh}

theorem minmax_sim (h : RelW w0 bl D w m G) (hD : ∀ d, D d → D' d) {mx : Bool} {ps : List PV} {v : PV} {wr : Wr} {l o} {args : Array Value} {ts : Array TypeId} {ty : TypeId} (hr : (minmaxS mx ps).run m = some ((v, wr), l, o))
    (hl : args.size = ps.length) (ha : ∀ (j : Nat) u p, args[j]? = some u → ps[j]? = some p → RepS w (okP w m G) G u p) :
    ∃ v', (match mx with | true => Builtin.max_ ts ty args | false => Builtin.min_ ts ty args).run P w = .ok v' w ∧ After w0 bl D' w m G v wr v' w := by
  match ps, hr with
  | [.int k a, .int k' b], hr =>
    simp only [minmaxS] at hr
    split at hr
    · rename_i hk
      subst hk
      have h1 := (run_ret hr).1
      injection h1 with h1 h2
      subst h1; subst h2
      have hargs : args = #[.int k a, .int k b] := by
        obtain ⟨al⟩ := args
        match al, hl, ha with
        | [u0, u1], _, ha =>
          have e0 := (ha 0 u0 (.int k a) rfl rfl).int
          have e1 := (ha 1 u1 (.int k b) rfl rfl).int
          rw [e0, e1]
      subst hargs
      cases mx with
      | true => exact ⟨.int k (if b > a then b else a), by simp [Builtin.max_, Builtin.max2], After.quiet h hD (.leaf (.pl (.int ..) rfl))⟩
      | false => exact ⟨.int k (if b < a then b else a), by simp [Builtin.min_, Builtin.min2], After.quiet h hD (.leaf (.pl (.int ..) rfl))⟩
    · exact (run_fail hr).elim

theorem makeS_sim (h : RelW w0 bl D w m G) {fid : Nat} (hf : Fr D D' fid) {t : TypeId} {a b v : PV} {wr : Wr} {l o} {a' b' : Value} (hr : (makeS P fid t a b).run m = some ((v, wr), l, o)) (ha : RepS w (okP w m G) G a' a) (hb : RepS w (okP w m G) G b' b) :
    ∃ v' w', (Instr.makeSlice t a' b').run P w = .ok v' w' ∧ After w0 bl D' w m G v wr v' w' := by
  unfold makeS at hr
  split at hr
  · rename_i e hu
    split at hr
    · rename_i z n by' hz hs hby
      split at hr
      · rename_i hzn
        have hzn : z.length = n + 1 := by simpa using hzn
        split at hr
        · rename_i kx x kc c
          split at hr
          · rename_i hc
            obtain ⟨hx0, hxc, hlim⟩ := hc
            have h1 := (run_ret hr).1
            injection h1 with h1 h2
            subst h1; subst h2
            have := ha.int; subst this
            have := hb.int; subst this
            obtain ⟨i, zv, hi, hisz, hib, hiz, hzc⟩ := tInfo hs hby hz
            obtain ⟨c1, c2, c3⟩ := constsPV_rep hzc w (okP w m G)
            have hzs : zv.cells.size = n + 1 := by rw [← hzn]; simpa using c1
            have hlim' : c * (by' : Int) + c ≤ 70368744177664 := by
              have : c * ((by' : Int) + 1) ≤ 70368744177664 := hlim
              rw [Int.mul_add, Int.mul_one] at this
              exact this
            have hcb : 0 ≤ c * (by' : Int) := Int.mul_nonneg (by omega) (by omega)
            have wx : IntKind.i64.wrap x = x := IntWalk.i64_in _ (by omega)
            have wc : IntKind.i64.wrap c = c := IntWalk.i64_in _ (by omega)
            have k1 : ¬ (c < 0) := by omega
            have k2 : ¬ (281474976710656 < (by' : Int) * c) := by rw [Int.mul_comm]; omega
            have k3 : ¬ (x < 0) := by omega
            have k4 : ¬ (c < x) := by omega
            obtain ⟨hR, hA⟩ := h.newRow hf.zero.1 hf.sub hf.zero.2 (Array.map (fun i => zv.cells[i % zv.cells.size]!) (Array.range (c.toNat * (n + 1)))) e (n + 1) c.toNat (List.replicate x.toNat z) (by simp; omega) (by simp) (fun y hy => by rw [List.eq_of_mem_replicate hy]; exact hzn) (fun y hy => by rw [List.eq_of_mem_replicate hy]; exact c2) (fun i y j p hy hp => by
              have hi := (List.getElem?_eq_some_iff.1 hy).1
              simp at hi
              rw [List.getElem?_replicate_of_lt (by omega)] at hy
              injection hy with hy
              subst hy
              have hj : j < n + 1 := by rw [← hzn]; exact (List.getElem?_eq_some_iff.1 hp).1
              have hij : i * (n + 1) + j < c.toNat * (n + 1) := mul_lt (by omega) hj
              obtain ⟨u', hu', hrep⟩ := c3 j p hp
              have hm : (i * (n + 1) + j) % (n + 1) = j := by rw [Nat.mul_comm, Nat.mul_add_mod]; exact Nat.mod_eq_of_lt hj
              have hju : zv.cells[j]! = u' := by
                have : zv.cells[j]? = some u' := by simpa using hu'
                rw [getElem!_def, this]
              exact ⟨u', by simp only [Array.getElem?_map, Array.getElem?_range, if_pos hij, Option.map_some, hzs, hm, hju], hrep⟩)
            have hlr : (List.replicate x.toNat z).length = x.toNat := by simp
            refine ⟨.slice (some ⟨w.heap.size, 0, none⟩) x.toNat c.toNat, _, ?_, _, hR, hA, .leaf (.h (by simp [Gh.withV, upd_eq]) rfl)⟩
            by_cases hc0 : c.toNat * (n + 1) = 0
            · have hr0 : Array.range 0 = #[] := rfl
              simp [Instr.makeSlice, run_underlying hu, asInt, asIntOf, typeInfo, hi, hib, wx, wc, k1, k2, k3, k4, Go.sizeOf, hisz, hc0, newRow, newObj, Sem.run, hr0]
            · simp [Instr.makeSlice, run_underlying hu, asInt, asIntOf, typeInfo, hi, hib, wx, wc, k1, k2, k3, k4, Go.sizeOf, hisz, hc0, zeroValue, hiz, newRow, newObj, Sem.run]
          · exact (run_fail hr).elim
        · exact (run_fail hr).elim
      · exact (run_fail hr).elim
    · exact (run_fail hr).elim
  · exact (run_fail hr).elim

/-! ### conversions -/
theorem toBytes_spec : ∀ {xs : List (List PV)} {l : List UInt8}, toBytes xs = some l → ∃ ns : List Int, xs = ns.map (fun n => [.int .u8 n]) ∧ l = ns.map fun n => UInt8.ofNat n.toNat
  | [], l, h => by simp [toBytes] at h; subst h; exact ⟨[], rfl, rfl⟩
  | x :: r, l, h => by
    unfold toBytes at h
    split at h
    · rename_i h0; cases h0
    · rename_i n r' h0
      injection h0 with h1 h2
      subst h1; subst h2
      cases hr : toBytes r with
      | none => simp [hr] at h
      | some l' =>
        simp [hr] at h
        subst h
        obtain ⟨ns, h1, h2⟩ := toBytes_spec hr
        exact ⟨n :: ns, by simp [h1], by simp [h2]⟩
    · cases h
theorem freeze_heap {w : World} {g o : Nat} {cur : Array Value} {t : TypeId} {lo hi : Nat} (h : w.heap[g]? = some (.cells cur t (lo, hi))) :
    (w.freeze ⟨g, o, none⟩ 1).heap[g]? = some (.cells cur t (if lo == hi then (o, o + 1) else (min lo o, max hi (o + 1)))) ∧ (∀ k, k ≠ g → (w.freeze ⟨g, o, none⟩ 1).heap[k]? = w.heap[k]?) ∧ (w.freeze ⟨g, o, none⟩ 1).heap.size = w.heap.size ∧
    (w.freeze ⟨g, o, none⟩ 1).os = w.os ∧ (w.freeze ⟨g, o, none⟩ 1).tape = w.tape ∧ (w.freeze ⟨g, o, none⟩ 1).output = w.output := by
  refine ⟨by simp [World.freeze, Array.getElem?_modify, h], fun k hk => by simp [World.freeze, Array.getElem?_modify, hk.symm], by simp [World.freeze], rfl, rfl, rfl⟩
/-- A row whose block's marks have changed beyond its cells. -/
theorem RelW.rowMark {d e sz xs g n c cur fz fz'} (h : RelW w0 bl D w m G) (hd : m d = some ⟨true, .row e sz xs⟩) (hv : G.V d = some (.slice (some ⟨g, 0, none⟩) n c)) (hh : w.heap[g]? = some (.cells cur e fz)) {w' : World}
    (hh' : w'.heap[g]? = some (.cells cur e fz')) (hfz' : noFz fz' cur.size) (hsame : ∀ k, k ≠ g → w'.heap[k]? = w.heap[k]?) (hsize : w'.heap.size = w.heap.size) (hos : w'.os = w.os) (htape : w'.tape = w.tape) (hout : w'.output = w.output) :
    RelW w0 bl D w' (upd m d (some ⟨true, .row e sz xs⟩)) G ∧ Adv w (okP w m G) G w' (okP w' (upd m d (some ⟨true, .row e sz xs⟩)) G) G := by
  have hown : ownB G d ⟨true, .row e sz xs⟩ = some g := by simp [ownB, hv, Value.ownBlock]
  refine h.step (fun x => x = d) (fun _ _ => ⟨rfl, rfl, rfl⟩) (fun _ h => h) (fun x hx hv => absurd (h.dom x hv) hx) hos htape hout (by rw [hsize]; exact Nat.le_refl _) rfl (fun k hk => hsame k (fun he => hk.2 d _ hd (he ▸ hown))) (fun x hx => upd_ne _ _ hx)
    (fun x e1 hx he k ho => hsame k (fun hkb => hx (h.sep x d e1 _ g he hd (hkb ▸ ho) hown)))
    (fun x e1 k hu he ho => ?_) (fun _ _ _ _ _ hu hu' _ _ _ _ => hu.trans hu'.symm) (fun ha x e1 hu he => ?_)
  · subst hu
    simp only [upd_eq, Option.some.injEq] at he
    subst he
    rw [hown] at ho
    simp only [Option.some.injEq] at ho
    subst ho
    exact ⟨fun hk => hk.2 x _ hd hown, fun x1 e1 hx1 h1 ho1 => hx1 (h.sep x1 x e1 _ _ h1 hd ho1 hown), h.new x _ _ hd hown⟩
  · subst hu
    simp only [upd_eq, Option.some.injEq] at he
    subst he
    obtain ⟨v1, hV1, hzd, hrow⟩ := h.ent x _ hd
    rw [hv] at hV1; injection hV1 with hV1; subst hV1
    rcases hrow with ⟨h0, _⟩ | ⟨g', c1, cur1, fz1, hv1, hh1, hc1, hcur, hfz1, hlen1, hpl, hcell⟩
    · cases h0
    · injection hv1 with hg hn hc'
      injection hg with hg
      injection hg with hg
      subst hg; subst hn; subst hc'
      rw [hh] at hh1
      injection hh1 with hh1
      injection hh1 with hh1
      subst hh1
      exact ⟨_, hv, hzd, .inr ⟨g, c, cur, fz', rfl, hh', hc1, hcur, hfz', hlen1, hpl, fun i x j p hx hp => let ⟨u, hu, hr⟩ := hcell i x j p hx hp; ⟨u, hu, hr.mono ha.ok⟩⟩⟩

theorem convS_sim (h : RelW w0 bl D w m G) {fid : Nat} (hf : Fr D D' fid) {s t : TypeId} {a v : PV} {wr : Wr} {l o} {a' : Value} (hr : (convS P fid s t a).run m = some ((v, wr), l, o)) (ha : RepS w (okP w m G) G a' a) :
    ∃ v' w', (Go.convert s t a').run P w = .ok v' w' ∧ After w0 bl D' w m G v wr v' w' := by
  unfold convS at hr
  split at hr
  · rename_i ds k hs ht
    split at hr
    · have h1 := (run_ret hr).1
      injection h1 with h1 h2
      subst h1; subst h2
      have := ha.int; subst this
      exact ⟨_, w, by simp [Go.convert, run_underlying hs, run_underlying ht, Conv.intToInt], After.quiet h hf.sub (.leaf (.pl (.int ..) rfl))⟩
    · exact (run_fail hr).elim
  · rename_i hs ht
    split at hr
    · have h1 := (run_ret hr).1
      injection h1 with h1 h2
      subst h1; subst h2
      obtain ⟨s', rfl, rfl⟩ := ha.str
      exact ⟨_, w, by simp [Go.convert, run_underlying hs, run_underlying ht], After.quiet h hf.sub (.leaf (.pl (.str _) rfl))⟩
    · exact (run_fail hr).elim
  · rename_i e hs ht
    split at hr
    · rename_i hu
      split at hr
      · rename_i hsz
        have h1 := (run_ret hr).1
        injection h1 with h1 h2
        subst h1; subst h2
        obtain ⟨s', rfl, rfl⟩ := ha.str
        have hls : s'.data.toList.length = s'.size := by rw [Array.length_toList]; rfl
        have hrun := Lib.run_convert_string_bytes (P := P) w s t e s' hs ht hu
        have hlaid := ofBytes_laid (w := w) (okP w m G) s'.data.toList
        have hol : (ofBytes s'.data.toList).length = s'.size := by rw [ofBytes, List.length_map]; exact hls
        have hge := grownCap_ge w s'.size 0 e
        have hcs : (Lib.bytesCells w e s').size = grownCap w s'.size 0 e := by
          simp [Lib.bytesCells]
          omega
        obtain ⟨hR, hA⟩ := h.newRowG (w' := Lib.bytesWorld w e s') hf.zero.1 hf.sub hf.zero.2 (Lib.bytesCells w e s') e 1 (grownCap w s'.size 0 e) (ofBytes s'.data.toList) (Lib.bytesWorld_at_new w e s')
          (fun k hk => Lib.bytesWorld_at_old w e s' k hk) (by rw [Lib.bytesWorld_size]; exact Nat.le_succ _) rfl rfl rfl (.inr (Nat.le_refl _))
          (by rw [hol]; exact hge) (by rw [hcs]; omega) hlaid.2.1 hlaid.2.2.1 (fun i x j p hx hp => by
            obtain ⟨u, hu, hr⟩ := hlaid.2.2.2 i x j p hx hp
            refine ⟨u, ?_, hr⟩
            have := (List.getElem?_eq_some_iff.1 hu).1
            rw [Lib.bytesCells, Array.getElem?_append_left (by simpa using this)]
            simpa using hu)
        exact ⟨_, _, hrun, _, hR, hA, .leaf (.h (by simp [Gh.withV, upd_eq, hol]) rfl)⟩
      · exact (run_fail hr).elim
    · exact (run_fail hr).elim
  · rename_i es e' hs ht
    split at hr
    · rename_i d hu
      split at hr
      · rename_i hst
        have hst : s = t := by simpa using hst
        subst hst
        obtain ⟨c, l', hm, hk⟩ := run_own hr
        cases c with
        | box => exact (run_fail hk).elim
        | row e1 sz xs =>
          simp only at hk
          split at hk
          · exact (run_fail hk).elim
          · rename_i hne
            have h1 := (run_ret hk).1
            injection h1 with h1 h2
            subst h1; subst h2
            have hV := ha.h.1
            obtain ⟨v1, hV1, hzd, hrow⟩ := h.ent d _ hm
            rw [hV] at hV1; injection hV1 with hV1; subst hV1
            rcases hrow with ⟨_, rfl⟩ | ⟨g, cap, cur, fz, rfl, hh, hcap, hcur, hfz, hlen, hpl, hcell⟩
            · simp at hne
            · obtain ⟨lo, hi⟩ := fz
              obtain ⟨f1, f2, f3, f4, f5, f6⟩ := freeze_heap (o := cur.size) hh
              have hz' : noFz (if lo == hi then (cur.size, cur.size + 1) else (min lo cur.size, max hi (cur.size + 1))) cur.size := by
                refine .inr ?_
                by_cases hlh : lo = hi
                · subst hlh
                  simp
                · have hb : (lo == hi) = false := by simpa using hlh
                  rw [hb]
                  rcases hfz with h0 | h0
                  · exact absurd h0 hlh
                  · simp only at h0
                    simp only [Bool.false_eq_true, if_false]
                    omega
              obtain ⟨hR, hA⟩ := h.rowMark hm hV hh f1 hz' f2 f3 f4 f5 f6
              have hshape : w.shape? g = some (e1, cur.size) := by simp [World.shape?, hh]
              refine ⟨.slice (some ⟨g, 0, none⟩) xs.length cap, w.freeze ⟨g, cur.size, none⟩ 1, ?_, G, hR.widen hf.sub, hA, .leaf (.h hV rfl)⟩
              rw [ht] at hs
              injection hs with hs
              injection hs with hs
              subst hs
              simp [Go.convert, run_underlying ht, run_underlying hu, markStringish, hshape]
      · exact (run_fail hr).elim
    · exact (run_fail hr).elim
  · rename_i e hs ht
    split at hr
    · rename_i hu
      obtain ⟨xs, a1, a2, a3, a4, hxs, hr, _, _⟩ := run_bind hr
      obtain ⟨hx, rfl⟩ := run_retO hr
      cases hb : toBytes xs with
      | none => simp [hb] at hx
      | some lb =>
        simp [hb] at hx
        subst hx
        obtain ⟨ns, rfl, rfl⟩ := toBytes_spec hb
        obtain ⟨news, ad, c, rfl, hnil, hl, hg⟩ := elemsOf_gives (P := P) h Nat.one_pos hxs ha
        have hnews : news = ns.map fun n => .int .u8 n := by
          apply List.ext_getElem?
          intro i
          by_cases hi : i < ns.length
          · obtain ⟨u, hu, hr⟩ := hl.2.2.2 i [.int .u8 ns[i]] 0 (.int .u8 ns[i]) (by simp [hi]) rfl
            rw [Nat.mul_one, Nat.add_zero] at hu
            cases hr
            rw [hu]
            simp [hi]
          · have h1 := hl.1
            simp at h1
            rw [List.getElem?_eq_none (by omega), List.getElem?_eq_none (by simp; omega)]
        subst hnews
        simp only [List.length_map] at hg hnil ⊢
        have hst : ∃ st : ByteArray, (Conv.bytesToString (.slice ad ns.length c)).run P w = .ok (.string st) w ∧ st.data.toList = ns.map fun n => UInt8.ofNat n.toNat := by
          obtain ⟨g1, g2⟩ := hg
          have g2 := g2 w rfl
          cases ad with
          | none =>
            have : ns = [] := by simpa using hnil rfl
            subst this
            exact ⟨.empty, by simp [Conv.bytesToString], rfl⟩
          | some ad =>
            refine ⟨_, run_bytesToString w ad ns.length c ns (by simpa [Builtin.firstCells] using g2), ?_⟩
            rw [foldl_push_bytes]
            simp
        obtain ⟨st, hst, hsl⟩ := hst
        refine ⟨_, w, (run_convert_bytes_string w s t e ad _ c hs hu ht).trans hst, After.quiet h hf.sub ?_⟩
        rw [← hsl]
        exact .leaf (.pl (.str _) rfl)
    · exact (run_fail hr).elim
  · exact (run_fail hr).elim
end Go.Den
