/- Layer 8: points, null, and twice. -/
import Derived.Test.YtfggkljgfadacaaSA
import Derived.DeepKeys4
import Derived.WideKeyEntry
import Derived.RowKit
import Derived.WideMake
set_option linter.unusedVariables false
set_option linter.unusedSimpArgs false
namespace Go.Proofs.Ytfggkljgfadacaa.W
open Go.RowKit Go.Proofs.Ytfggkljgfadacaa.B Go.Proofs
open Go.ChangeMaps (setBlock heap_setBlock_same heap_setBlock_other)

theorem laidOutS : laidOutB Try.prog = true := by kernel_rfl
theorem row99 : (99 : TypeId) < Try.prog.types.size := of_decide_eq_true (by kernel_rfl)
theorem wide99 : (match Try.prog.underlying 99 with | some (.array _ _) | some (.struct _) => true | _ => false) = true := by kernel_rfl
set_option maxRecDepth 100000 in
theorem law99 : Go.WideMaps.KeyLaw Try.prog 99 := deep_law_laid laidOutS (m := 3) (by omega) row99 (by kernel_rfl) wide99
theorem keyType99 : Try.prog.keyType 99 = true := by kernel_rfl
theorem cells99 : Try.prog.cellsOf 99 = 33 := by kernel_rfl
theorem cells53 : Try.prog.cellsOf 53 = 32 := by kernel_rfl
theorem cells22 : Try.prog.cellsOf 22 = 1 := by kernel_rfl
/-- A point's cells. -/
abbrev Pt := List UInt8 × Nat
def ptC (p : Pt) : List Value := p.1.map u8v ++ [.int .u32 (p.2 : Int)]
def ptV (p : Pt) : Value := .agg (ptC p).toArray
def okPt (p : Pt) : Prop := p.1.length = 32 ∧ p.2 < 4294967296
theorem ptV_inj {p q : Pt} (hp : okPt p) (hq : okPt q) (h : ptV p = ptV q) : p = q := by
  unfold ptV ptC at h
  injection h with h
  have h := congrArg Array.toList h
  simp only at h
  have h1 := List.append_inj h (by rw [List.length_map, List.length_map, hp.1, hq.1])
  obtain ⟨h1, h2⟩ := h1
  have e1 : p.1 = q.1 := by
    refine List.map_inj_right (fun a b hab => ?_) |>.1 h1
    unfold u8v at hab
    injection hab with _ hab
    exact UInt8.toNat_inj.1 (by omega)
  have e2 : p.2 = q.2 := by
    injection h2 with h2 _
    injection h2 with _ h2
    omega
  exact Prod.ext e1 e2
theorem mapM_some {α β : Type} (f : α → Option β) : ∀ l : List α, (∀ a ∈ l, ∃ b, f a = some b) → ∃ bs, l.mapM f = some bs
  | [], _ => ⟨[], rfl⟩
  | a :: l, h => by
    obtain ⟨b, hb⟩ := h a (List.mem_cons_self ..)
    obtain ⟨bs, hbs⟩ := mapM_some f l (fun x hx => h x (List.mem_cons_of_mem _ hx))
    exact ⟨b :: bs, by rw [List.mapM_cons, hb, hbs]; rfl⟩
theorem lits_u8 (d : Nat) (b : UInt8) : ∃ l, Try.prog.keyLits (d + 1) 5 [u8v b] = some l := by
  have hw : (Lit.int .u8 (b.toNat : Int)).wf = true := by
    have := b.toNat_lt
    simp [Lit.wf, IntKind.wrap, IntKind.bits, IntKind.signed, IntKind.min, IntKind.max]
    omega
  exact ⟨[.int .u8 (b.toNat : Int)], by unfold Program.keyLits u8v; simp [Try.underlying5, hw]⟩
theorem lits_53 (d : Nat) (l : List UInt8) (h : l.length = 32) : ∃ r, Try.prog.keyLits (d + 2) 53 (l.map u8v) = some r := by
  obtain ⟨bs, hbs⟩ := mapM_some (fun i => Try.prog.keyLits (d + 1) 5 (((l.map u8v).drop (i * Try.prog.cellsOf 5)).take (Try.prog.cellsOf 5))) (List.range 32) (fun i hi => by
    have hi' : i < 32 := List.mem_range.1 hi
    rw [cells5, Nat.mul_one]
    have e : ((l.map u8v).drop i).take 1 = [u8v l[i]] := by
      rw [List.drop_eq_getElem_cons (by rw [List.length_map]; omega)]
      simp
    rw [e]
    exact lits_u8 d _)
  refine ⟨bs.flatten, ?_⟩
  rw [show d + 2 = (d + 1) + 1 from rfl]
  unfold Program.keyLits
  simp only [Try.underlying53]
  rw [if_pos (by rw [List.length_map, h, cells53]), hbs]
  rfl
theorem types_size : ∃ m, Try.prog.types.size = m + 2 := ⟨Try.prog.types.size - 2, by have h : 99 < Try.prog.types.size := row99; omega⟩
theorem ptV_key (p : Pt) (hp : okPt p) : ∃ l, keyOf Try.prog 99 (ptV p) = some l := by
  obtain ⟨m, hm⟩ := types_size
  have hlen : (ptC p).length = 33 := by unfold ptC; simp [hp.1]
  obtain ⟨r1, hr1⟩ := lits_53 m p.1 hp.1
  have hw : (Lit.int .u32 (p.2 : Int)).wf = true := by
    have := hp.2
    simp [Lit.wf, IntKind.wrap, IntKind.bits, IntKind.signed, IntKind.min, IntKind.max]
    omega
  have hr2 : Try.prog.keyLits (m + 2) 22 [.int .u32 (p.2 : Int)] = some [.int .u32 (p.2 : Int)] := by
    unfold Program.keyLits
    simp [Try.underlying22, hw]
  have hK : ∃ r, Try.prog.keyLits (Try.prog.types.size + 1) 99 (ptC p) = some r := by
    rw [hm]
    unfold Program.keyLits
    simp only [Try.underlying99]
    rw [if_pos ⟨by rw [hlen, cells99], by simp⟩]
    have e1 : ((ptC p).drop 0).take (Try.prog.cellsOf 53) = p.1.map u8v := by
      rw [cells53, List.drop_zero]
      unfold ptC
      rw [List.take_left' (by rw [List.length_map]; exact hp.1)]
    have e2 : ((ptC p).drop 32).take (Try.prog.cellsOf 22) = [.int .u32 (p.2 : Int)] := by
      rw [cells22]
      unfold ptC
      rw [List.drop_left' (by rw [List.length_map]; exact hp.1)]
      rfl
    simp only [List.mapM_cons, List.mapM_nil, e1, e2, hr1, hr2]
    exact ⟨_, rfl⟩
  obtain ⟨r, hr⟩ := hK
  refine ⟨.string (keyBytes r), ?_⟩
  unfold keyOf
  simp only [Try.underlying99]
  rw [if_pos (by rw [keyType99]; simp [ptV, Value.formed, Try.underlying99, cells99, hlen])]
  show (Try.prog.keyLits (Try.prog.types.size + 1) 99 ((ptC p).toArray).toList).map _ = _
  rw [show ((ptC p).toArray).toList = ptC p from rfl, hr]
  rfl
/-- A map block: the points that are in it, each with its number. -/
def MapP (W : World) (M : Nat) (kv : List (Pt × Int)) : Prop :=
  ∃ (es : Array MapEntry) (clock : Nat), W.heap[M]? = some (.map es clock) ∧ es.toList.map (fun e => (e.key, e.val)) = kv.map (fun q => (ptV q.1, Value.int .i64 q.2)) ∧ (es.toList.map (·.born)).Nodup ∧ (∀ e ∈ es.toList, e.born < clock) ∧ ∀ q ∈ kv, okPt q.1
theorem MapP.keys {kv : List (Pt × Int)} {es : Array MapEntry} (h : es.toList.map (fun e => (e.key, e.val)) = kv.map (fun q => (ptV q.1, Value.int .i64 q.2))) (hok : ∀ q ∈ kv, okPt q.1) : ∀ e ∈ es.toList, ∃ l, keyOf Try.prog 99 e.key = some l := by
  intro e he
  have : (e.key, e.val) ∈ kv.map (fun q => (ptV q.1, Value.int .i64 q.2)) := by rw [← h]; exact List.mem_map.2 ⟨e, he, rfl⟩
  obtain ⟨q, hq, hqe⟩ := List.mem_map.1 this
  injection hqe with h1 _
  rw [← h1]
  exact ptV_key q.1 (hok q hq)
theorem zero3 (W : World) : (zeroValue 3).run Try.prog W = .ok (.int .i64 0) W := by
  obtain ⟨i, hi, hzz⟩ := Option.map_eq_some_iff.1 info3
  simp only [Prod.mk.injEq] at hzz
  simp [zeroValue, typeInfo, hi, hzz.1]
/-- What find says of a point. -/
theorem MapP.find {W : World} {kv : List (Pt × Int)} {es : Array MapEntry} (h : es.toList.map (fun e => (e.key, e.val)) = kv.map (fun q => (ptV q.1, Value.int .i64 q.2))) (hok : ∀ q ∈ kv, okPt q.1) (p : Pt) (hp : okPt p) :
    ((Instr.findKey 99 (ptV p) es.toList).run Try.prog W = .ok none W ∧ ∀ q ∈ kv, q.1 ≠ p) ∨
    ∃ (j : Nat) (e : MapEntry) (x : Int), (Instr.findKey 99 (ptV p) es.toList).run Try.prog W = .ok (some (j, e.val)) W ∧ es.toList[j]? = some e ∧ e.key = ptV p ∧ e.val = .int .i64 x ∧ kv[j]? = some (p, x) := by
  obtain ⟨l, hl⟩ := ptV_key p hp
  rcases law99.find W hl es.toList (MapP.keys h hok) with ⟨h1, h2⟩ | ⟨j, e, h1, h2, h3⟩
  · refine .inl ⟨h1, fun q hq he => ?_⟩
    have : (ptV q.1, Value.int .i64 q.2) ∈ es.toList.map (fun e => (e.key, e.val)) := by rw [h]; exact List.mem_map.2 ⟨q, hq, rfl⟩
    obtain ⟨e, hee, hqe⟩ := List.mem_map.1 this
    injection hqe with h3 _
    exact h2 e hee (by rw [h3, he])
  · have hj : (es.toList.map (fun e => (e.key, e.val)))[j]? = some (e.key, e.val) := by rw [List.getElem?_map, h2]; rfl
    rw [h, List.getElem?_map] at hj
    obtain ⟨q, hq, hqe⟩ := Option.map_eq_some_iff.1 hj
    injection hqe with h4 h5
    have e1 : q.1 = p := ptV_inj (hok q (List.mem_of_getElem? hq)) hp (by rw [h4, h3])
    exact .inr ⟨j, e, q.2, h1, h2, h3, h5.symm, by rw [hq, ← e1]⟩
theorem MapP.lookup_no {W : World} {M : Nat} {kv : List (Pt × Int)} (h : MapP W M kv) (p : Pt) (hp : okPt p) (hn : ∀ q ∈ kv, q.1 ≠ p) : (Instr.lookup 94 (.map (some M)) (ptV p) false).run Try.prog W = .ok (.int .i64 0) W := by
  obtain ⟨es, clock, hb, h1, h2, h3, h4⟩ := h
  obtain ⟨l, hl⟩ := ptV_key p hp
  rcases MapP.find (W := W) h1 h4 p hp with ⟨h5, _⟩ | ⟨j, e, x, _, _, _, _, h9⟩
  · simp [Instr.lookup, run_underlying Try.underlying94, MapKept.run_getObj_map hb, law99.check W _ hl, h5, zero3, Result.andThen]
  · exact absurd rfl (hn _ (List.mem_of_getElem? h9))
theorem MapP.lookup_at {W : World} {M : Nat} {kv : List (Pt × Int)} (h : MapP W M kv) (p : Pt) (hp : okPt p) (y : Int) (hy : ∀ q ∈ kv, q.1 = p → q.2 = y) (hin : ∃ q ∈ kv, q.1 = p) : (Instr.lookup 94 (.map (some M)) (ptV p) false).run Try.prog W = .ok (.int .i64 y) W := by
  obtain ⟨es, clock, hb, h1, h2, h3, h4⟩ := h
  obtain ⟨l, hl⟩ := ptV_key p hp
  rcases MapP.find (W := W) h1 h4 p hp with ⟨_, h5⟩ | ⟨j, e, x, h5, _, _, h8, h9⟩
  · obtain ⟨q, hq, he⟩ := hin
    exact absurd he (h5 q hq)
  · have : x = y := hy _ (List.mem_of_getElem? h9) rfl
    subst this
    simp [Instr.lookup, run_underlying Try.underlying94, MapKept.run_getObj_map hb, law99.check W _ hl, h5, h8, Result.andThen]
theorem findIdx_bornI {l : List MapEntry} (hn : (l.map (·.born)).Nodup) {j : Nat} {e0 : MapEntry} (h : l[j]? = some e0) : l.findIdx? (fun e => ((e.born : Nat) : Int) == ((e0.born : Nat) : Int)) = some j := Go.WideElems.findIdx_born hn h
/-- A point that is new: first its place is made, then its number stored. -/
theorem MapP.entry_new {W : World} {M : Nat} {kv : List (Pt × Int)} (h : MapP W M kv) (p : Pt) (hp : okPt p) (hn : ∀ q ∈ kv, q.1 ≠ p) :
    ∃ (st : Nat) (W1 : World), (Instr.mapEntry 94 (.map (some M)) (ptV p)).run Try.prog W = .ok (.tuple #[.int .i64 0, .int .i64 (st : Int)]) W1 ∧ W.grownBy W1 (some M) ∧ MapP W1 M (kv ++ [(p, 0)]) ∧
      ∀ (W2 : World) (y : Int), W2.heap[M]? = W1.heap[M]? → ∃ W3, (Instr.entryStore 94 (.map (some M)) (.int .i64 (st : Int)) (.int .i64 y)).run Try.prog W2 = .ok () W3 ∧ W2.grownBy W3 (some M) ∧ MapP W3 M (kv ++ [(p, y)]) := by
  obtain ⟨es, clock, hb, h1, h2, h3, h4⟩ := h
  obtain ⟨l, hl⟩ := ptV_key p hp
  have hlt := (Array.getElem?_eq_some_iff.1 hb).1
  rcases MapP.find (W := W) h1 h4 p hp with ⟨h5, _⟩ | ⟨j, e, x, _, _, _, _, h9⟩
  · have hok : ∀ (y : Int), ∀ q ∈ kv ++ [(p, y)], okPt q.1 := fun y q hq => by
      rcases List.mem_append.1 hq with hq | hq
      · exact h4 q hq
      · simp at hq; subst hq; exact hp
    have hnd : ∀ v : Value, ((es.push ⟨ptV p, v, clock⟩).toList.map (·.born)).Nodup := fun v => by
      simp only [Array.toList_push, List.map_append, List.map_cons, List.map_nil]
      refine List.nodup_append.2 ⟨h2, by simp, fun a ha c hc e1 => ?_⟩
      simp only [List.mem_singleton] at hc
      obtain ⟨x, hx, rfl⟩ := List.mem_map.1 ha
      have := h3 x hx
      omega
    have hcl : ∀ v : Value, ∀ e ∈ (es.push ⟨ptV p, v, clock⟩).toList, e.born < clock + 1 := fun v e he => by
      simp only [Array.toList_push, List.mem_append, List.mem_singleton] at he
      rcases he with he | he
      · have := h3 e he; omega
      · subst he; simp
    have hkv : ∀ y : Int, (es.push ⟨ptV p, .int .i64 y, clock⟩).toList.map (fun e => (e.key, e.val)) = (kv ++ [(p, y)]).map (fun q => (ptV q.1, Value.int .i64 q.2)) := fun y => by
      simp [h1]
    have hw : ∀ (V : World) (o : Obj), M < V.heap.size → V.grownBy (setBlock V M o) (some M) := fun V o hV => ⟨rfl, rfl, rfl, by simp [setBlock], fun k hk hne => by
      simp only [setBlock]
      rw [Array.getElem?_setIfInBounds_ne (fun e => hne (by rw [e]))]⟩
    refine ⟨clock, setBlock W M (.map (es.push ⟨ptV p, .int .i64 0, clock⟩) (clock + 1)), ?_, hw W _ hlt, ⟨_, _, heap_setBlock_same hb _, hkv 0, hnd _, hcl _, hok 0⟩, fun W2 y hW2 => ?_⟩
    · simp [Instr.mapEntry, run_underlying Try.underlying94, MapKept.run_getObj_map hb, law99.check W _ hl, h5, zero3, MapKept.run_setObj_map _ hb, Result.andThen, setBlock, goInt]
    · have hb2 : W2.heap[M]? = some (.map (es.push ⟨ptV p, .int .i64 0, clock⟩) (clock + 1)) := by rw [hW2]; exact heap_setBlock_same hb _
      have hidx : (es.push ⟨ptV p, .int .i64 0, clock⟩).findIdx? (fun e => ((e.born : Nat) : Int) == ((clock : Nat) : Int)) = some es.size := by
        rw [Go.WideElems.findIdx_arr]
        exact findIdx_bornI (e0 := ⟨ptV p, .int .i64 0, clock⟩) (hnd _) (by simp)
      have hmod : (es.push ⟨ptV p, .int .i64 0, clock⟩).modify es.size (fun e => { e with val := .int .i64 y }) = es.push ⟨ptV p, .int .i64 y, clock⟩ := by
        apply Array.ext'
        rw [Array.toList_modify, Array.toList_push, Array.toList_push, ← Array.length_toList, Go.WideElems.modify_last]
      refine ⟨setBlock W2 M (.map (es.push ⟨ptV p, .int .i64 y, clock⟩) (clock + 1)), ?_, hw W2 _ (Array.getElem?_eq_some_iff.1 hb2).1, ⟨_, _, heap_setBlock_same hb2 _, hkv y, hnd _, hcl _, hok y⟩⟩
      simp [Instr.entryStore, MapKept.run_getObj_map hb2, asInt, asIntOf, hidx, hmod, MapKept.run_setObj_map _ hb2, Result.andThen, setBlock]
  · exact absurd rfl (hn _ (List.mem_of_getElem? h9))
/-- A point that is there: its number anew. -/
theorem MapP.entry_at {W : World} {M : Nat} {kv : List (Pt × Int)} (h : MapP W M kv) (p : Pt) (hp : okPt p) (x : Int) (hx : ∀ q ∈ kv, q.1 = p → q.2 = x) (hin : ∃ q ∈ kv, q.1 = p) (hnd : (kv.map Prod.fst).Nodup) :
    ∃ (st : Nat) (W1 : World), (Instr.mapEntry 94 (.map (some M)) (ptV p)).run Try.prog W = .ok (.tuple #[.int .i64 x, .int .i64 (st : Int)]) W1 ∧ W.grownBy W1 (some M) ∧ MapP W1 M kv ∧
      ∀ (W2 : World) (y : Int), W2.heap[M]? = W1.heap[M]? → ∃ W3 kv', (Instr.entryStore 94 (.map (some M)) (.int .i64 (st : Int)) (.int .i64 y)).run Try.prog W2 = .ok () W3 ∧ W2.grownBy W3 (some M) ∧ MapP W3 M kv' ∧ (∀ q ∈ kv', q.1 = p → q.2 = y) ∧ ∃ q ∈ kv', q.1 = p := by
  obtain ⟨es, clock, hb, h1, h2, h3, h4⟩ := h
  obtain ⟨l, hl⟩ := ptV_key p hp
  have hlt := (Array.getElem?_eq_some_iff.1 hb).1
  have hw : ∀ (V : World) (o : Obj), M < V.heap.size → V.grownBy (setBlock V M o) (some M) := fun V o hV => ⟨rfl, rfl, rfl, by simp [setBlock], fun k hk hne => by
    simp only [setBlock]
    rw [Array.getElem?_setIfInBounds_ne (fun e => hne (by rw [e]))]⟩
  rcases MapP.find (W := W) h1 h4 p hp with ⟨_, h5⟩ | ⟨j, e0, x', h5, h6, h7, h8, h9⟩
  · obtain ⟨q, hq, he⟩ := hin
    exact absurd he (h5 q hq)
  · have : x' = x := hx _ (List.mem_of_getElem? h9) rfl
    subst this
    have hj : es[j]? = some e0 := by simpa using h6
    have hjl : j < kv.length := (List.getElem?_eq_some_iff.1 h9).1
    have hsame : es.modify j (fun e => { e with key := ptV p }) = es := by
      apply Array.ext'
      rw [Array.toList_modify, Go.ChangeMaps.modify_eq_set _ _ _ _ h6]
      have : ({ e0 with key := ptV p } : MapEntry) = e0 := by rw [← h7]
      rw [this]
      exact Go.WideElems.set_self _ _ _ h6
    refine ⟨e0.born, setBlock W M (.map es clock), ?_, hw W _ hlt, ⟨_, _, heap_setBlock_same hb _, h1, h2, h3, h4⟩, fun W2 y hW2 => ?_⟩
    · simp [Instr.mapEntry, run_underlying Try.underlying94, MapKept.run_getObj_map hb, law99.check W _ hl, h5, hj, h7, h8, law99.stays W hl, hsame, MapKept.run_setObj_map _ hb, Result.andThen, setBlock, goInt]
    · have hb2 : W2.heap[M]? = some (.map es clock) := by rw [hW2]; exact heap_setBlock_same hb _
      have hidx : es.findIdx? (fun e => ((e.born : Nat) : Int) == ((e0.born : Nat) : Int)) = some j := by
        rw [Go.WideElems.findIdx_arr]
        exact findIdx_bornI h2 h6
      have hml : (es.modify j (fun e => { e with val := .int .i64 y })).toList = es.toList.set j { e0 with val := .int .i64 y } := by
        rw [Array.toList_modify, Go.ChangeMaps.modify_eq_set _ _ _ _ h6]
      refine ⟨setBlock W2 M (.map (es.modify j (fun e => { e with val := .int .i64 y })) clock), kv.set j (p, y), ?_, hw W2 _ (Array.getElem?_eq_some_iff.1 hb2).1, ⟨_, _, heap_setBlock_same hb2 _, ?_, ?_, ?_, ?_⟩, ?_, ?_⟩
      · simp [Instr.entryStore, MapKept.run_getObj_map hb2, asInt, asIntOf, hidx, MapKept.run_setObj_map _ hb2, Result.andThen, setBlock]
      · rw [hml, List.map_set, List.map_set, h1, h7]
      · rw [hml, List.map_set]
        have : (es.toList.map (·.born)).set j e0.born = es.toList.map (·.born) := Go.WideElems.set_self _ _ _ (by rw [List.getElem?_map, h6]; rfl)
        rw [this]
        exact h2
      · intro e he
        rw [hml] at he
        rcases List.mem_or_eq_of_mem_set he with he | he
        · exact h3 e he
        · rw [he]; exact h3 e0 (List.mem_of_getElem? h6)
      · intro q hq
        rcases List.mem_or_eq_of_mem_set hq with hq | hq
        · exact h4 q hq
        · rw [hq]; exact hp
      · intro q hq hqp
        obtain ⟨i, hi⟩ := List.getElem?_of_mem hq
        by_cases hij : i = j
        · subst hij
          rw [List.getElem?_set_self hjl] at hi
          rw [← Option.some.inj hi]
        · rw [List.getElem?_set_ne (fun q => hij q.symm)] at hi
          exfalso
          have hil := (List.getElem?_eq_some_iff.1 hi).1
          have h10 : (kv.map Prod.fst)[i]? = some p := by rw [List.getElem?_map, hi, Option.map_some, hqp]
          have h11 : (kv.map Prod.fst)[j]? = some p := by rw [List.getElem?_map, h9]; rfl
          have hil' : i < (kv.map Prod.fst).length := by rw [List.length_map]; exact hil
          have hjl' : j < (kv.map Prod.fst).length := by rw [List.length_map]; exact hjl
          have e10 : (kv.map Prod.fst)[i] = p := by rw [List.getElem?_eq_getElem hil'] at h10; exact Option.some.inj h10
          have e11 : (kv.map Prod.fst)[j] = p := by rw [List.getElem?_eq_getElem hjl'] at h11; exact Option.some.inj h11
          rcases Nat.lt_trichotomy i j with h | h | h
          · exact (List.pairwise_iff_getElem.1 hnd) i j hil' hjl' h (by rw [e10, e11])
          · exact hij h
          · exact (List.pairwise_iff_getElem.1 hnd) j i hjl' hil' h (by rw [e10, e11])
      · exact ⟨(p, y), List.mem_iff_getElem?.2 ⟨j, by rw [List.getElem?_set_self hjl]⟩, rfl⟩
end Go.Proofs.Ytfggkljgfadacaa.W
namespace Go.Proofs.Ytfggkljgfadacaa.W
open Go.RowKit Go.Proofs.Ytfggkljgfadacaa.B Go.Proofs

/-- A load of many cells at an operation that has a guard. -/
theorem wpList_load_midG {P : Program} {ops : Array Oper} {rest : List Oper} {op : Oper} {a : Act} {w : World} {Q : Exit → Act → World → Prop} (hgd : Region.wanted op (yielded ops a.tmps) = true) (ty : TypeId) (x : Operand) (ho : op.op = .load ty x)
    (b o : Nat) (hx : a.eval x = .pointer (some ⟨b, o, none⟩)) (cs : List Value) (d : TypeDesc) (hc : w.rangeAt b o cs) (hu : P.underlying ty = some d) (hd : d.isRow = true) (hi : (P.info? ty).map (·.size) = some cs.length)
    (h : wpList P ops Q rest (a.put op.dst (.agg cs.toArray)) w) : wpList P ops Q (op :: rest) a w := by
  refine wpList_step fun K hK => ?_
  rw [if_pos hgd]
  exact wp_load_mid ty x ho b o hx cs d hc hu hd hi (hK _ _ h)
def nullB (x : LIn) : Bool := (x.prev == zB 32) && ((x.vout : Int) == 4294967295)
theorem built53 : Try.prog.built 53 [] = some ((zB 32).map u8v).toArray := by kernel_rfl
theorem zB32_length : (zB 32).length = 32 := by simp [zB]
set_option maxHeartbeats 1000000 in
set_option maxRecDepth 100000 in
theorem null_any (cs : List Value) (x : LIn) (w : World) (hr : InC w cs x) :
    Calls Try.prog 90 #[.agg cs.toArray] w fun e w' => e = .returned (.bool (nullB x)) ∧ Below w.heap.size w w' := by
  obtain ⟨A1, A2, c1, c2, h32, h33, h34, h35, HS, HW⟩ := hr.facts
  have HI := As.mk hr
  have HC := As.mk h32
  clear hr h32 h33 h34 h35 HS HW
  go_enter Try.func90, Try.ntmps90
  go_upto_region 1 with fail
  have HB : As (Below w.heap.size w (w.alloc (.cells cs.toArray 55)) ∧ Box (w.alloc (.cells cs.toArray 55)) w.heap.size cs.toArray 55) := ⟨below_al _ _, Box.new w _ _⟩
  change Code.wp _ _ _ _ (w.alloc (.cells cs.toArray 55))
  generalize w.alloc (.cells cs.toArray 55) = W at HB ⊢
  obtain ⟨px, hpx⟩ : ∃ p, p = x.prev.map u8v := ⟨_, rfl⟩
  have HPL : As (px.length = 32) := ⟨by rw [hpx, List.length_map]; exact HI.out.prev⟩
  have HG : As (W.rangeAt w.heap.size 0 px) := ⟨by rw [hpx]; exact HI.out.head HB.out.2⟩
  have q32 := Box.cell HB.out.2 32 _ (by rw [List.getElem?_toArray]; exact HC.out)
  have hgd := guard53
  have he : ∀ V, (binOp .eql 53 (.agg (x.prev.map u8v).toArray) (.agg #[.int .u8 0, .int .u8 0, .int .u8 0, .int .u8 0, .int .u8 0, .int .u8 0, .int .u8 0, .int .u8 0, .int .u8 0, .int .u8 0, .int .u8 0, .int .u8 0, .int .u8 0, .int .u8 0, .int .u8 0, .int .u8 0, .int .u8 0, .int .u8 0, .int .u8 0, .int .u8 0, .int .u8 0, .int .u8 0, .int .u8 0, .int .u8 0, .int .u8 0, .int .u8 0, .int .u8 0, .int .u8 0, .int .u8 0, .int .u8 0, .int .u8 0, .int .u8 0])).run Try.prog V = .ok (.bool (x.prev == zB 32)) V := fun V => run_eql53 V x.prev (zB 32) HI.out.prev zB32_length
  rw [← hpx] at he
  obtain ⟨bp, hbp⟩ : ∃ b, (x.prev == zB 32) = b := ⟨_, rfl⟩
  have HNB : As (nullB x = (bp && ((x.vout : Int) == 4294967295))) := ⟨by rw [← hbp]; rfl⟩
  rw [hbp] at he
  clear hpx hbp
  cases bp with
  | true =>
    go_wp2_with ((with_reducible refine wpList_load_mid (op := ⟨_, .load 53 (.tmp 3), _, _, _, _⟩) ?hgd 53 (.tmp 3) rfl _ _ ?hx px _ HG.out Try.underlying53 rfl ?hi ?_); (case hgd => exact rfl); (case hx => exact rfl); (case hi => rw [HPL.out]; kernel_rfl))
    go_ret
    rw [HNB.out]
    exact ⟨by first | rfl | simp, HB.out.1⟩
  | false =>
    go_wp2_with ((with_reducible refine wpList_load_mid (op := ⟨_, .load 53 (.tmp 3), _, _, _, _⟩) ?hgd 53 (.tmp 3) rfl _ _ ?hx px _ HG.out Try.underlying53 rfl ?hi ?_); (case hgd => exact rfl); (case hx => exact rfl); (case hi => rw [HPL.out]; kernel_rfl))
    go_ret
    rw [HNB.out]
    exact ⟨by first | rfl | simp, HB.out.1⟩
theorem null_to (cs : List Value) (x : LIn) (w : World) {r : Bool} (hq : nullB x = r) (hr : InC w cs x) :
    Calls Try.prog 90 #[.agg cs.toArray] w fun e w' => e = .returned (.bool r) ∧ Below w.heap.size w w' := by
  rw [← hq]; exact null_any cs x w hr
def coinB (t : LTx) : Bool := match t.ins with | [x] => nullB x | _ => false
set_option maxHeartbeats 1000000 in
set_option maxRecDepth 100000 in
theorem coin_any (cs : List Value) (t : LTx) (w : World) {r : Bool} (hq : coinB t = r) (hr : TxC w cs t) :
    Calls Try.prog 71 #[.agg cs.toArray] w fun e w' => e = .returned (.bool r) ∧ Below w.heap.size w w' := by
  obtain ⟨AI, cI, AO, cO, rfl⟩ := hr.four
  have HR := As.mk hr.ins
  have hm : (t.ins.length : Int) ≤ 9223372036854775807 := by have := HR.out.len; unfold maxLen at this; omega
  have HW := As.mk (below_al w (.cells #[.int .u32 (t.ver : Int), .slice AI t.ins.length cI, .slice AO t.outs.length cO, .int .u32 (t.lock : Int)] 51))
  by_cases h1 : t.ins.length = 1
  · obtain ⟨x, hx⟩ := List.length_eq_one_iff.1 h1
    have HN : As (nullB x = r) := ⟨by rw [← hq]; unfold coinB; rw [hx]⟩
    obtain ⟨g, o, cs, rfl, hcl, hin, hrange⟩ := RdL.at (HR.out.below InC.stable HW.out) 0 x (by rw [hx]; rfl)
    rw [Nat.zero_mul, Nat.add_zero] at hrange
    have HCL := As.mk hcl
    have HIN := As.mk hin
    have HRG := As.mk hrange
    have e1 : ((t.ins.length : Int) == 1) = true := by rw [h1]; rfl
    have h0 : 0 < t.ins.length := by omega
    clear hr hq hx hcl hin hrange h1
    go_enter Try.func71, Try.ntmps71
    go_upto_region 1 with fail
    change Code.wp _ _ _ _ (w.alloc (.cells #[.int .u32 (t.ver : Int), .slice (some ⟨g, o, none⟩) t.ins.length cI, .slice AO t.outs.length cO, .int .u32 (t.lock : Int)] 51))
    have q1 : (w.alloc (.cells #[.int .u32 (t.ver : Int), .slice (some ⟨g, o, none⟩) t.ins.length cI, .slice AO t.outs.length cO, .int .u32 (t.lock : Int)] 51)).cell? ⟨w.heap.size, 1, none⟩ = some (.slice (some ⟨g, o, none⟩) t.ins.length cI) := (Box.new w #[.int .u32 (t.ver : Int), .slice (some ⟨g, o, none⟩) t.ins.length cI, .slice AO t.outs.length cO, .int .u32 (t.lock : Int)] 51).cell 1 _ rfl
    generalize w.alloc (.cells #[.int .u32 (t.ver : Int), .slice (some ⟨g, o, none⟩) t.ins.length cI, .slice AO t.outs.length cO, .int .u32 (t.lock : Int)] 51) = W at HW HIN HRG q1 ⊢
    go_wp2_with (first | ((with_reducible refine wpList_load_midG (op := ⟨_, .load 55 (.tmp 10), _, _, _, _⟩) ?hgd 55 (.tmp 10) rfl _ _ ?hx cs _ HRG.out Try.underlying55 rfl ?hi ?_); (case hgd => exact rfl); (case hx => exact rfl); (case hi => rw [HCL.out]; kernel_rfl)) | (go_at_call 90; (with_reducible refine (null_to _ _ _ HN.out HIN.out).mono ?_); rintro e w3 ⟨rfl, hb⟩; have HB3 := As.mk (HW.out.trans (hb.mono HW.out.size)); clear hb))
    go_ret
    exact ⟨rfl, HB3.out⟩
  · have HN : As (r = false) := ⟨by
      rw [← hq]; unfold coinB
      split
      · rename_i x hx; rw [hx] at h1; exact absurd rfl h1
      · rfl⟩
    have e1 : ((t.ins.length : Int) == 1) = false := beq_eq_false_iff_ne.2 (by omega)
    clear hr hq h1
    go_enter Try.func71, Try.ntmps71
    go_wp2
    go_ret
    rw [HN.out]
    exact ⟨rfl, HW.out⟩
end Go.Proofs.Ytfggkljgfadacaa.W
namespace Go.Proofs.Ytfggkljgfadacaa.W
open Go.RowKit Go.Proofs.Ytfggkljgfadacaa.B Go.Proofs

def ZPt : Value := .agg (Z32 ++ [Value.int .u32 0]).toArray
theorem info99 : (Try.prog.info? 99).map (fun i => (i.zero, i.size, i.bytes)) = some (some ZPt, 33, 36) := by kernel_rfl
theorem zpt_size : ZPt.cells.size = 33 := by kernel_rfl
theorem fill99 (z : Array Value) (hz : z.size = 33) (cs : List Value) (h : cs.length = 33) : Instr.fill (fun i => some (i * 33, 33)) z [(0, .agg cs.toArray)] = some cs.toArray := by
  unfold Instr.fill
  have hc : (Value.agg cs.toArray).cells = cs.toArray := rfl
  simp only [hc, List.size_toArray, h, hz, Nat.zero_mul]
  rw [if_neg (by decide)]
  unfold Instr.fill
  congr 1
  rw [← Array.foldl_toList]
  obtain ⟨z⟩ := z
  have := set_all cs [] z (by simpa [h] using hz)
  simpa using this
theorem built99 (cs : List Value) (h : cs.length = 32) (n : Int) : Try.prog.built 99 [(0, .agg cs.toArray), (1, .int .u32 n)] = some ((cs ++ [Value.int .u32 n] : List Value).toArray) := by
  obtain ⟨it, hi, hzz⟩ := Option.map_eq_some_iff.1 info99
  simp only [Prod.mk.injEq] at hzz
  rw [built_of Try.underlying99 hi hzz.1 (places := [(0, 32), (32, 1)]) (by kernel_rfl)]
  have hz32 : Z32.length = 32 := rfl
  have h1 := fill_step (([(0, 32), (32, 1)] : List (Nat × Nat)).toArray[·]?) 0 0 cs (.agg cs.toArray) (by rw [h]; rfl) rfl [] Z32 [Value.int .u32 0] rfl (by rw [h, hz32]) [(1, .int .u32 n)]
  have h2 := fill_step (([(0, 32), (32, 1)] : List (Nat × Nat)).toArray[·]?) 1 32 [Value.int .u32 n] (.int .u32 n) rfl rfl cs [Value.int .u32 0] [] h rfl []
  simp only [List.nil_append, List.append_assoc, List.singleton_append, List.append_nil] at h1 h2
  exact h1.trans (h2.trans rfl)
def ptOf (x : LIn) : Pt := (x.prev, x.vout)
def PE (w : World) (own : Option Nat) (cs : List Value) (p : Pt) : Prop := cs = ptC p ∧ okPt p
def PtC (w : World) (cs : List Value) (p : Pt) : Prop := cs = ptC p ∧ okPt p
theorem PE.any (w w' : World) (own own' : Option Nat) : ∀ cs p, PE w own cs p → PE w' own' cs p := fun _ _ h => h
theorem PtC.stable : Stable PtC := fun w w' cs x h hb => h
theorem ptC_one (p : Pt) : ∀ u ∈ ptC p, u.oneCell' = true := by
  intro u hu
  rcases List.mem_append.1 hu with h | h
  · exact u8v_one _ u h
  · simp at h; subst h; rfl
set_option maxHeartbeats 1000000 in
set_option maxRecDepth 100000 in
theorem points_any (cs : List Value) (t : LTx) (w : World) (hr : TxC w cs t) (hn : t.ins.length ≤ 1000) :
    Calls Try.prog 91 #[.agg cs.toArray] w fun e w' => ∃ r, e = .returned r ∧ RdL PtC 33 w' r (t.ins.map ptOf) ∧ Below w.heap.size w w' := by
  obtain ⟨AI, cI, AO, cO, rfl⟩ := hr.four
  have HR := As.mk hr.ins
  obtain ⟨ys, hys⟩ : ∃ ys, ys = t.ins := ⟨_, rfl⟩
  rw [← hys] at HR hn ⊢
  have hm : (ys.length : Int) ≤ 1000 := by omega
  clear hr hys hn
  obtain ⟨V, hV⟩ : ∃ V : Nat, t.ver = V := ⟨_, rfl⟩
  obtain ⟨L, hL⟩ : ∃ V : Nat, t.lock = V := ⟨_, rfl⟩
  obtain ⟨NO, hNO⟩ : ∃ V : Nat, t.outs.length = V := ⟨_, rfl⟩
  rw [hV, hL, hNO]
  clear hV hL hNO
  have HW := As.mk (below_al w (.cells #[.int .u32 (V : Int), .slice AI ys.length cI, .slice AO NO cO, .int .u32 (L : Int)] 51))
  go_enter Try.func91, Try.ntmps91
  go_wp2
  go_loopw [3, 9] (fun v3 v9 wr => ∃ i : Nat, v9 = .int .i64 (i : Int) ∧ (i : Int) ≤ ys.length ∧ As (OwG PE 99 33 wr w.heap.size v3 ((ys.take i).map ptOf)) ∧ As (Below w.heap.size w wr)) (fun _ v9 _ => ys.length - (intOf v9).toNat)
  case atStart => exact ⟨0, rfl, by omega, ⟨OwG.nil⟩, HW⟩
  case round =>
    obtain ⟨i, rfl, hi, HO, HB⟩ := hrel
    by_cases hlt : (i : Int) < ys.length
    · have HK := As.mk (List.getElem?_eq_getElem (show i < ys.length by omega))
      generalize ys[i]'(by omega) = x at HK
      obtain ⟨g, o, cs, rfl, hcl, hin, hrange⟩ := RdL.at (HR.out.below InC.stable HB.out) i x HK.out
      have HCL := As.mk hcl
      have HIN := As.mk hin
      have HRG := As.mk hrange
      have H1 := As.mk hin.one
      obtain ⟨A1, A2, c1, c2, h32, _⟩ := hin.facts
      have HC := As.mk h32
      clear hcl hin hrange h32
      go_upto_region 5 with (first | ((with_reducible refine wpList_load_mid (op := ⟨_, .load 55 (.tmp 11), _, _, _, _⟩) ?hgd 55 (.tmp 11) rfl _ _ ?hx cs _ HRG.out Try.underlying55 rfl ?hi ?_); (case hgd => exact rfl); (case hx => exact rfl); (case hi => rw [HCL.out]; kernel_rfl)) | ((with_reducible refine wpList_store_new (op := ⟨_, .store 55 (.tmp 5) (.tmp 12), _, _, _, _⟩) ?hgd 55 (.tmp 5) (.tmp 12) rfl (wr) ?cc55 cs ?hw ?hx ?hy ?hi ?hc H1.out ?_); (case hgd => exact rfl); (case hw => exact rfl); (case hx => exact rfl); (case hy => exact rfl); (case hi => rw [HCL.out]; kernel_rfl); (case hc => rw [HCL.out]; exact rfl)))
      have HW1 : As (Below wr.heap.size wr (wr.alloc (.cells cs.toArray 55)) ∧ Box (wr.alloc (.cells cs.toArray 55)) wr.heap.size cs.toArray 55) := ⟨below_al _ _, Box.new _ _ _⟩
      obtain ⟨G, hG⟩ : ∃ G, G = wr.heap.size := ⟨_, rfl⟩
      have HW2 : As (Box (wr.alloc (.cells cs.toArray 55)) G cs.toArray 55) := ⟨by rw [hG]; exact HW1.out.2⟩
      rw [← hG]
      clear hG
      change Code.wp _ _ _ _ (wr.alloc (.cells cs.toArray 55))
      generalize wr.alloc (.cells cs.toArray 55) = W1 at HW1 HW2 ⊢
      obtain ⟨px, hpx⟩ : ∃ p, p = x.prev.map u8v := ⟨_, rfl⟩
      have HPL : As (px.length = 32) := ⟨by rw [hpx, List.length_map]; exact HIN.out.prev⟩
      have HG : As (W1.rangeAt G 0 px) := ⟨by rw [hpx]; exact HIN.out.head HW2.out⟩
      have q32 := Box.cell HW2.out 32 _ (by rw [List.getElem?_toArray]; exact HC.out)
      obtain ⟨pc, hpc⟩ : ∃ c, c = ptC (ptOf x) := ⟨_, rfl⟩
      have HPC := As.mk hpc
      have HPB : As (Try.prog.built 99 [(0, .agg px.toArray), (1, .int .u32 (x.vout : Int))] = some pc.toArray) := ⟨by rw [built99 px HPL.out, hpc, hpx]; rfl⟩
      have HPCL : As (pc.length = 33) := ⟨by rw [hpc]; unfold ptC ptOf; simp [HIN.out.prev]⟩
      have HPC1 : As (∀ u ∈ pc, u.oneCell' = true) := ⟨by rw [hpc]; exact ptC_one _⟩
      have HOK : As (okPt (ptOf x)) := ⟨HIN.out.prev, by obtain ⟨_, _, _, _, _, _, hv, _⟩ := HIN.out; exact hv⟩
      have HO1 : As (OwG PE 99 33 (W1.alloc (.cells pc.toArray 99)) w.heap.size u3 ((ys.take i).map ptOf)) := ⟨OwG.same (PE.any _ _ _ · · · ·) (OwG.same (PE.any _ _ _ · · · ·) HO.out HW1.out.1) (below_al _ _)⟩
      have HBN := As.mk (Box.new W1 pc.toArray 99)
      have HBW := As.mk (HB.out.trans (HW1.out.1.mono HB.out.size))
      have HLN : As (((ys.take i).map ptOf).length ≤ 1000000) := ⟨by rw [List.length_map, List.length_take]; omega⟩
      have HVS := As.mk (map_step ptOf HK.out)
      obtain ⟨it, hit⟩ := Option.map_eq_some_iff.1 info99
      have HIT := As.mk hit
      clear hpx hpc hit
      go_wp2_with (first | ((with_reducible refine wpList_load_mid (op := ⟨_, .load 53 (.tmp 14), _, _, _, _⟩) ?hgd 53 (.tmp 14) rfl _ _ ?hx px _ HG.out Try.underlying53 rfl ?hi ?_); (case hgd => exact rfl); (case hx => exact rfl); (case hi => rw [HPL.out]; kernel_rfl)) | ((with_reducible refine wpList_build_to (o := ⟨_, .build 99 #[(0, .tmp 15), (1, .tmp 17)], _, _, _, _⟩) ?hgd 99 _ rfl pc.toArray ?hf ?_); (case hgd => exact rfl); (case hf => simp only [List.map_toArray, List.map_cons, List.map_nil]; exact HPB.out)) | ((with_reducible refine wpList_buildSlice (o := ⟨_, .buildSlice 96 1 #[(0, .tmp 18)], _, _, _, _⟩) ?hgd 96 99 1 _ rfl pc.toArray it ZPt Try.underlying96 HIT.out.1 ?hz ?hsm ?hpo ?hf ?_); (case hgd => exact rfl); (case hz => have h := HIT.out.2; simp only [Prod.mk.injEq] at h; exact h.1); (case hsm => have h := HIT.out.2; simp only [Prod.mk.injEq] at h; rw [h.2.1]; decide); (case hpo => have h := HIT.out.2; simp only [Prod.mk.injEq] at h; rw [h.2.1]; decide); (case hf => have h := HIT.out.2; simp only [Prod.mk.injEq] at h; rw [h.2.1]; simp only [List.map_toArray, List.map_cons, List.map_nil]; exact fill99 _ (by simp) pc HPCL.out)) | (at_builtin; refine wpList_appG (E := PE) w.heap.size rfl (.tmp 13) (.tmp 19) 96 99 ZPt 33 36 rfl Try.underlying96 info99 zpt_size (by decide) (by decide) u3 rfl W1.heap.size rfl pc HBN.out HPCL.out HPC1.out ((ys.take i).map ptOf) (ptOf x) HO1.out ⟨HPC.out, HOK.out⟩ (fun v' w' hg ht => PE.any _ _ _ _) HLN.out (by have := HBW.out.size; simp; omega) ?_; intro v4 w4 ho hg ht; have HO4 := As.mk ho; have HB4 := As.mk ((HBW.out.alloc HBW.out.size _).grown hg (by have := HBW.out.size; simp; omega) (fun b hb => (OwG.lt HO1.out b hb).1)); clear ho hg ht))
      go_roundw
      case rel => exact ⟨i + 1, by go_num, by omega, ⟨by rw [HVS.out]; exact HO4.out⟩, HB4⟩
      case measure => simp [intOf]; omega
    · have hin : i = ys.length := by omega
      have HF : As (RdL PtC 33 wr u3 (ys.map ptOf)) := ⟨by have := OwG.rd (R := PtC) (fun w own cs y h => h) HO.out; rw [hin, List.take_length] at this; exact this⟩
      clear hin
      go_wp2
      go_ret
      exact ⟨_, rfl, HF.out, HB.out⟩
end Go.Proofs.Ytfggkljgfadacaa.W
namespace Go.Proofs.Ytfggkljgfadacaa.W
open Go.RowKit Go.Proofs.Ytfggkljgfadacaa.B Go.Proofs

section
variable {ops : Array Oper} {o : Oper} {a : Act} {w : World} {K : Act → World → Prop} {Q : Exit → Act → World → Prop} {F : Prop} {rest : List Oper}
theorem step_lookup (hgd : o.guard = none) (m x : Operand) (t : TypeId) (ho : o.op = .lookup t m x false) (mv kv : Value) (hm : a.eval m = mv) (hx : a.eval x = kv) (v : Value)
    (hr : (Instr.lookup t mv kv false).run Try.prog w = .ok v w) (h : K (a.put o.dst v) w) : if Region.wanted o (yielded ops a.tmps) = true then Oper.wp Try.prog o a w K Q else F := by
  rw [if_pos (by simp [Region.wanted, hgd])]
  unfold Oper.wp execOp
  simp only [ho, hm, hx, hr, Sem.run_bind, Sem.run_pure, Result.andThen_ok]
  exact h
theorem step_mapEntry (hgd : o.guard = none) (m x : Operand) (t : TypeId) (ho : o.op = .mapEntry t m x) (mv kv : Value) (hm : a.eval m = mv) (hx : a.eval x = kv) (v : Value) (w' : World)
    (hr : (Instr.mapEntry t mv kv).run Try.prog w = .ok v w') (h : K (a.put o.dst v) w') : if Region.wanted o (yielded ops a.tmps) = true then Oper.wp Try.prog o a w K Q else F := by
  rw [if_pos (by simp [Region.wanted, hgd])]
  unfold Oper.wp execOp
  simp only [ho, hm, hx, hr, Sem.run_bind, Sem.run_pure, Result.andThen_ok]
  exact h
theorem step_entryStore (hgd : o.guard = none) (m x y : Operand) (t : TypeId) (ho : o.op = .entryStore t m x y) (mv sv yv : Value) (hm : a.eval m = mv) (hx : a.eval x = sv) (hy : a.eval y = yv) (w' : World)
    (hr : (Instr.entryStore t mv sv yv).run Try.prog w = .ok () w') (h : K (a.put o.dst undef) w') : if Region.wanted o (yielded ops a.tmps) = true then Oper.wp Try.prog o a w K Q else F := by
  rw [if_pos (by simp [Region.wanted, hgd])]
  unfold Oper.wp execOp
  simp only [ho, hm, hx, hy, hr, Sem.run_bind, Sem.run_pure, Result.andThen_ok]
  exact h
theorem wpList_lookupR (hgd : o.guard = none) (m x : Operand) (t : TypeId) (ho : o.op = .lookup t m x false) (mv kv : Value) (hm : a.eval m = mv) (hx : a.eval x = kv) (v : Value)
    (hr : (Instr.lookup t mv kv false).run Try.prog w = .ok v w) (h : wpList Try.prog ops Q rest (a.put o.dst v) w) : wpList Try.prog ops Q (o :: rest) a w := by
  refine wpList_plain hgd fun K hK => ?_
  unfold Oper.wp execOp
  simp only [ho, hm, hx, hr, Sem.run_bind, Sem.run_pure, Result.andThen_ok]
  exact hK _ _ h
end
theorem MapP.below {W W' : World} {M : Nat} {kv : List (Pt × Int)} (h : MapP W M kv) (hb : Below W.heap.size W W') : MapP W' M kv := by
  obtain ⟨es, clock, h1, h2⟩ := h
  exact ⟨es, clock, by rw [hb.block M (Array.getElem?_eq_some_iff.1 h1).1]; exact h1, h2⟩
theorem MapP.ne {W : World} {M B : Nat} {kv : List (Pt × Int)} {cs : Array Value} {t : TypeId} (h : MapP W M kv) (hb : Box W B cs t) : B ≠ M := by
  obtain ⟨es, clock, h1, _⟩ := h
  intro e
  subst e
  have hb' : W.heap[B]? = _ := hb
  rw [h1] at hb'
  injection hb' with hb'
  cases hb'
theorem MapP.lt {W : World} {M : Nat} {kv : List (Pt × Int)} (h : MapP W M kv) : M < W.heap.size := by
  obtain ⟨es, clock, h1, _⟩ := h
  exact (Array.getElem?_eq_some_iff.1 h1).1
theorem MapP.new (W : World) : MapP (W.alloc (.map #[] 0)) W.heap.size [] := ⟨#[], 0, heap_alloc_last W _, rfl, by simp, fun e he => by simp at he, fun q hq => by simp at hq⟩
theorem RdL.mapGrown {W W' : World} {M : Nat} {kv : List (Pt × Int)} {v : Value} {ps : List Pt} (h : RdL PtC 33 W v ps) (hm : MapP W M kv) (hg : W.grownBy W' (some M)) : RdL PtC 33 W' v ps := by
  obtain ⟨A, c, rfl, h1, h2, h3, h4⟩ := h
  refine ⟨A, c, rfl, h1, h2, h3, fun ad had => ?_⟩
  obtain ⟨g, o, rfl, h5⟩ := h4 ad had
  refine ⟨g, o, rfl, fun j x hx => ?_⟩
  obtain ⟨cs, h6, h7, h8⟩ := h5 j x hx
  refine ⟨cs, h6, h7, fun k u hu => ?_⟩
  have hc := h8 k u hu
  obtain ⟨es, clock, hb, _⟩ := hm
  by_cases hgm : g = M
  · subst hgm
    simp [World.cell?, hb] at hc
  · have hlt := World.block_lt_of_cell? W _ hc
    have he : W'.heap[g]? = W.heap[g]? := hg.block g hlt (fun e => hgm (by injection e))
    simpa [World.cell?, he] using hc
def insT (xs : List LIn) : Int := if xs.any nullB = true then 4 else if (xs.map ptOf).Nodup then 0 else 5
def ones (ps : List Pt) : List (Pt × Int) := ps.map fun p => (p, 1)
theorem ones_fst (ps : List Pt) : (ones ps).map Prod.fst = ps := by simp [ones, Function.comp_def]
theorem new_at {kv : List (Pt × Int)} {p : Pt} {y : Int} (hn : ∀ q ∈ kv, q.1 ≠ p) : ∀ q ∈ kv ++ [(p, y)], q.1 = p → q.2 = y := fun q hq he => by
  rcases List.mem_append.1 hq with h | h
  · exact absurd he (hn q h)
  · simp at h; subst h; rfl
theorem nodup_step {ps : List Pt} {i : Nat} {p : Pt} (h : ps[i]? = some p) (hd : (ps.take i).Nodup) : (ps.take (i + 1)).Nodup ↔ p ∉ ps.take i := by
  rw [List.take_add_one, h]
  simp only [Option.toList_some, List.nodup_append, hd, List.nodup_cons, List.not_mem_nil, not_false_eq_true, List.nodup_nil, and_self, true_and, List.mem_singleton, forall_eq]
  exact ⟨fun H hm => H p hm rfl, fun H a ha e => H (e ▸ ha)⟩
set_option maxHeartbeats 2000000 in
set_option maxRecDepth 100000 in
theorem ins_any (cs : List Value) (t : LTx) (w : World) (hr : TxC w cs t) (hn : t.ins.length ≤ 1000) :
    Calls Try.prog 66 #[.agg cs.toArray] w fun e w' => e = .returned (.int .i64 (insT t.ins)) ∧ Below w.heap.size w w' := by
  obtain ⟨AI, cI, AO, cO, rfl⟩ := hr.four
  have HTX := As.mk hr
  have HR := As.mk hr.ins
  have hm : (t.ins.length : Int) ≤ 1000 := by omega
  have HN := As.mk hn
  clear hr hn
  have hmk : ∀ V : World, (Instr.makeMap 94 none).run Try.prog V = .ok (.map (some V.heap.size)) (V.alloc (.map #[] 0)) := fun V => rfl
  go_enter Try.func66, Try.ntmps66
  go_upto_region 2 with fail
  have HWA : As (Below w.heap.size w ((w.alloc (.cells #[.int .u32 (t.ver : Int), .slice AI t.ins.length cI, .slice AO t.outs.length cO, .int .u32 (t.lock : Int)] 51)).alloc (.map #[] 0)) ∧ MapP ((w.alloc (.cells #[.int .u32 (t.ver : Int), .slice AI t.ins.length cI, .slice AO t.outs.length cO, .int .u32 (t.lock : Int)] 51)).alloc (.map #[] 0)) (w.heap.size + 1) [] ∧ Box ((w.alloc (.cells #[.int .u32 (t.ver : Int), .slice AI t.ins.length cI, .slice AO t.outs.length cO, .int .u32 (t.lock : Int)] 51)).alloc (.map #[] 0)) w.heap.size #[.int .u32 (t.ver : Int), .slice AI t.ins.length cI, .slice AO t.outs.length cO, .int .u32 (t.lock : Int)] 51) := ⟨by
    have h1 := below_al w (.cells #[.int .u32 (t.ver : Int), .slice AI t.ins.length cI, .slice AO t.outs.length cO, .int .u32 (t.lock : Int)] 51)
    have h2 := below_al (w.alloc (.cells #[.int .u32 (t.ver : Int), .slice AI t.ins.length cI, .slice AO t.outs.length cO, .int .u32 (t.lock : Int)] 51)) (.map #[] 0)
    refine ⟨h1.trans (h2.mono h1.size), ?_, (Box.new _ _ _).below h2⟩
    have := MapP.new (w.alloc (.cells #[.int .u32 (t.ver : Int), .slice AI t.ins.length cI, .slice AO t.outs.length cO, .int .u32 (t.lock : Int)] 51))
    simpa using this⟩
  obtain ⟨M, hM⟩ : ∃ M, M = w.heap.size + 1 := ⟨_, rfl⟩
  rw [← hM] at HWA ⊢
  have HMW : As (w.heap.size ≤ M) := ⟨by omega⟩
  clear hM hmk
  change Code.wp _ _ _ _ ((w.alloc (.cells #[.int .u32 (t.ver : Int), .slice AI t.ins.length cI, .slice AO t.outs.length cO, .int .u32 (t.lock : Int)] 51)).alloc (.map #[] 0))
  generalize (w.alloc (.cells #[.int .u32 (t.ver : Int), .slice AI t.ins.length cI, .slice AO t.outs.length cO, .int .u32 (t.lock : Int)] 51)).alloc (.map #[] 0) = W0 at HWA ⊢
  obtain ⟨q0, q1, q2, q3, _⟩ := Box.four HWA.out.2.2
  go_wp2
  clear q0 q1 q2 q3
  go_loopw [12] (fun v12 wr => ∃ i : Nat, v12 = .int .i64 (i : Int) ∧ (i : Int) ≤ t.ins.length ∧ As (Below W0.heap.size W0 wr) ∧ As (∀ x ∈ t.ins.take i, nullB x = false)) (fun v12 _ => t.ins.length - (intOf v12).toNat)
  case atStart => exact ⟨0, rfl, by omega, ⟨Below.refl _ _⟩, ⟨fun b h => by simp at h⟩⟩
  case round =>
    obtain ⟨i, rfl, hi, HB, HJ⟩ := hrel
    by_cases hlt : (i : Int) < t.ins.length
    · have HK := As.mk (List.getElem?_eq_getElem (show i < t.ins.length by omega))
      generalize t.ins[i]'(by omega) = x at HK
      obtain ⟨g, o, cs, rfl, hcl, hin, hrange⟩ := RdL.at ((HR.out.below InC.stable HWA.out.1).below InC.stable HB.out) i x HK.out
      have HCL := As.mk hcl
      have HIN := As.mk hin
      have HRG := As.mk hrange
      have H1 := As.mk hin.one
      clear hcl hin hrange
      go_upto_region 5 with (first | ((with_reducible refine wpList_load_mid (op := ⟨_, .load 55 (.tmp 14), _, _, _, _⟩) ?hgd 55 (.tmp 14) rfl _ _ ?hx cs _ HRG.out Try.underlying55 rfl ?hi ?_); (case hgd => exact rfl); (case hx => exact rfl); (case hi => rw [HCL.out]; kernel_rfl)) | ((with_reducible refine wpList_store_new (op := ⟨_, .store 55 (.tmp 5) (.tmp 15), _, _, _, _⟩) ?hgd 55 (.tmp 5) (.tmp 15) rfl (wr) ?cc55 cs ?hw ?hx ?hy ?hi ?hc H1.out ?_); (case hgd => exact rfl); (case hw => exact rfl); (case hx => exact rfl); (case hy => exact rfl); (case hi => rw [HCL.out]; kernel_rfl); (case hc => rw [HCL.out]; exact rfl)))
      have HW1 : As (Below wr.heap.size wr (wr.alloc (.cells cs.toArray 55)) ∧ Box (wr.alloc (.cells cs.toArray 55)) wr.heap.size cs.toArray 55) := ⟨below_al _ _, Box.new _ _ _⟩
      obtain ⟨G, hG⟩ : ∃ G, G = wr.heap.size := ⟨_, rfl⟩
      have HW2 : As (Box (wr.alloc (.cells cs.toArray 55)) G cs.toArray 55) := ⟨by rw [hG]; exact HW1.out.2⟩
      rw [← hG]
      clear hG
      change Code.wp _ _ _ _ (wr.alloc (.cells cs.toArray 55))
      generalize wr.alloc (.cells cs.toArray 55) = W1 at HW1 HW2 ⊢
      have HRW := As.mk (range_of_block HW2.out)
      have HIW := As.mk (InC.stable _ _ _ _ HIN.out HW1.out.1)
      have HBW := As.mk (HB.out.trans (HW1.out.1.mono HB.out.size))
      obtain ⟨b, hb⟩ : ∃ b, nullB x = b := ⟨_, rfl⟩
      have HNB := As.mk hb
      clear hb
      cases b with
      | true =>
        have HF : As (insT t.ins = 4) := ⟨by unfold insT; rw [if_pos (List.any_eq_true.2 ⟨x, List.mem_of_getElem? HK.out, HNB.out⟩)]⟩
        go_wp2_with (first | ((with_reducible refine wpList_load_mid (op := ⟨_, .load 55 (.tmp 5), _, _, _, _⟩) ?hgd 55 (.tmp 5) rfl _ _ ?hx cs _ HRW.out Try.underlying55 rfl ?hi ?_); (case hgd => exact rfl); (case hx => exact rfl); (case hi => rw [HCL.out]; kernel_rfl)) | (go_at_call 90; (with_reducible refine (null_to _ _ _ HNB.out HIW.out).mono ?_); rintro e w3 ⟨rfl, hb⟩; have HB3 := As.mk (HWA.out.1.trans ((HBW.out.trans (hb.mono HBW.out.size)).mono HWA.out.1.size)); clear hb))
        go_ret
        rw [HF.out]
        exact ⟨rfl, HB3.out⟩
      | false =>
        go_wp2_with (first | ((with_reducible refine wpList_load_mid (op := ⟨_, .load 55 (.tmp 5), _, _, _, _⟩) ?hgd 55 (.tmp 5) rfl _ _ ?hx cs _ HRW.out Try.underlying55 rfl ?hi ?_); (case hgd => exact rfl); (case hx => exact rfl); (case hi => rw [HCL.out]; kernel_rfl)) | (go_at_call 90; (with_reducible refine (null_to _ _ _ HNB.out HIW.out).mono ?_); rintro e w3 ⟨rfl, hb⟩; have HB3 := As.mk (HBW.out.trans (hb.mono HBW.out.size)); clear hb))
        go_roundw
        case rel => exact ⟨i + 1, by go_num, by omega, HB3, ⟨fun y hy => by
          rw [List.take_add_one, HK.out] at hy
          rcases List.mem_append.1 hy with h | h
          · exact HJ.out y h
          · simp at h; subst h; exact HNB.out⟩⟩
        case measure => simp [intOf]; omega
    · have hin : i = t.ins.length := by omega
      have HNN : As (¬ t.ins.any nullB = true) := ⟨fun ha => by
        obtain ⟨y, hy, he⟩ := List.any_eq_true.1 ha
        have := HJ.out y (by rw [hin, List.take_length]; exact hy)
        rw [he] at this
        cases this⟩
      have HBA := As.mk (HWA.out.1.trans (HB.out.mono HWA.out.1.size))
      have HTA := As.mk (HTX.out.below HBA.out)
      obtain ⟨q0, q1, q2, q3, _⟩ := Box.four (HWA.out.2.2.below HB.out)
      have HMA := As.mk (HWA.out.2.1.below HB.out)
      clear hin HB HJ
      obtain ⟨ps, hps⟩ : ∃ ps, t.ins.map ptOf = ps := ⟨_, rfl⟩
      have HPS := As.mk hps
      have hpl : (ps.length : Int) ≤ 1000 := by rw [← hps, List.length_map]; omega
      clear hps
      go_wp2_with (go_at_call 91; (with_reducible refine (points_any _ t _ HTA.out HN.out).mono ?_); rintro e w3 ⟨r, rfl, ho, hb⟩; have HP3 : As (RdL PtC 33 w3 r ps) := ⟨by rw [← HPS.out]; exact ho⟩; obtain ⟨AP, cP, rfl, _⟩ := RdL.form HP3.out; have HB3 := As.mk (HBA.out.trans (hb.mono HBA.out.size)); have HM3 := As.mk (HMA.out.below hb); clear ho hb q0 q1 q2 q3)
      go_loopw [22] (fun v22 wr => ∃ i : Nat, v22 = .int .i64 (i : Int) ∧ (i : Int) ≤ ps.length ∧ As (Below w.heap.size w wr) ∧ As (MapP wr M (ones (ps.take i)) ∧ RdL PtC 33 wr (.slice AP ps.length cP) ps ∧ (ps.take i).Nodup ∧ w.heap.size ≤ M)) (fun v22 _ => ps.length - (intOf v22).toNat)
      case atStart => exact ⟨0, rfl, by omega, HB3, ⟨HM3.out, HP3.out, by simp, HMW.out⟩⟩
      case round =>
        clear HP3 HB3 HM3
        obtain ⟨i, rfl, hi, HB, HJ⟩ := hrel
        by_cases hlt : (i : Int) < ps.length
        · have HK := As.mk (List.getElem?_eq_getElem (show i < ps.length by omega))
          generalize ps[i]'(by omega) = p at HK
          obtain ⟨g, o, pc, rfl, hcl, ⟨hpc, hok⟩, hrange⟩ := RdL.at HJ.out.2.1 i p HK.out
          have HPCL := As.mk hcl
          have HOK := As.mk hok
          have HPV : As (Value.agg pc.toArray = ptV p) := ⟨by rw [hpc]; rfl⟩
          have HRG := As.mk hrange
          have H1 : As (∀ u ∈ pc, u.oneCell' = true) := ⟨by rw [hpc]; exact ptC_one p⟩
          clear hcl hpc hok hrange
          go_upto_region 11 with (first | ((with_reducible refine wpList_load_mid (op := ⟨_, .load 99 (.tmp 24), _, _, _, _⟩) ?hgd 99 (.tmp 24) rfl _ _ ?hx pc _ HRG.out Try.underlying99 rfl ?hi ?_); (case hgd => exact rfl); (case hx => exact rfl); (case hi => rw [HPCL.out]; kernel_rfl)) | ((with_reducible refine wpList_store_new (op := ⟨_, .store 99 (.tmp 7) (.tmp 25), _, _, _, _⟩) ?hgd 99 (.tmp 7) (.tmp 25) rfl (wr) ?cc99 pc ?hw ?hx ?hy ?hi ?hc H1.out ?_); (case hgd => exact rfl); (case hw => exact rfl); (case hx => exact rfl); (case hy => exact rfl); (case hi => rw [HPCL.out]; kernel_rfl); (case hc => rw [HPCL.out]; exact rfl)))
          have HW1 : As (Below wr.heap.size wr (wr.alloc (.cells pc.toArray 99)) ∧ Box (wr.alloc (.cells pc.toArray 99)) wr.heap.size pc.toArray 99) := ⟨below_al _ _, Box.new _ _ _⟩
          obtain ⟨G, hG⟩ : ∃ G, G = wr.heap.size := ⟨_, rfl⟩
          have HBX : As (Box (wr.alloc (.cells pc.toArray 99)) G pc.toArray 99) := ⟨by rw [hG]; exact HW1.out.2⟩
          rw [← hG]
          clear hG
          change Code.wp _ _ _ _ (wr.alloc (.cells pc.toArray 99))
          generalize wr.alloc (.cells pc.toArray 99) = W1 at HW1 HBX ⊢
          have HMD : As (MapP W1.drew M (ones (ps.take i))) := ⟨(HJ.out.1.below HW1.out.1).below (below_dr W1)⟩
          have HGM : As (G ≠ M) := ⟨MapP.ne (HJ.out.1.below HW1.out.1) HBX.out⟩
          have HLP : As (RdL PtC 33 W1.drew (.slice (some ⟨g, o, none⟩) ps.length cP) ps) := ⟨RdL.below PtC.stable (RdL.below PtC.stable HJ.out.2.1 HW1.out.1) (below_dr W1)⟩
          have HBD := As.mk ((HB.out.trans (HW1.out.1.mono HB.out.size)).trans ((below_dr W1).mono (Nat.le_trans HB.out.size HW1.out.1.size)))
          have hw1 : IntKind.i64.wrap (0 + 1) = 1 := by decide
          have hw2 : IntKind.i64.wrap (1 + 1) = 2 := by decide
          by_cases hin : p ∈ ps.take i
          · have HY1 : As (∀ q ∈ ones (ps.take i), q.1 = p → q.2 = 1) := ⟨fun q hq _ => by unfold ones at hq; obtain ⟨a, _, rfl⟩ := List.mem_map.1 hq; rfl⟩
            have HIN : As (∃ q ∈ ones (ps.take i), q.1 = p) := ⟨⟨(p, 1), List.mem_map.2 ⟨p, hin, rfl⟩, rfl⟩⟩
            have HND : As (((ones (ps.take i)).map Prod.fst).Nodup) := ⟨by rw [ones_fst]; exact HJ.out.2.2.1⟩
            have HF : As (insT t.ins = 5) := ⟨by unfold insT; rw [if_neg HNN.out, HPS.out, if_neg (fun hd => ((nodup_step HK.out HJ.out.2.2.1).1 (hd.sublist (List.take_sublist _ _))) hin)]⟩
            clear hin
            refine wp_region_held_drew (S := (fun V : World => Box V G pc.toArray 99)) (by kernel_rfl) ?_ (fun hHeld => ?_)
            · exact Box.below HBX.out (below_dr W1)
            refine wpAnyH_take (i := 0) (oi := ?_) (v := ?_) (by simp only [List.getElem?_toArray, List.getElem?_cons_zero, List.getElem?_cons_succ]; rfl) (by kernel_rfl) (by kernel_rfl) (by kernel_rfl) (by exact fun _ _ _ h => h) (Or.inl ⟨by rfl, ?_⟩) (by assumption) ?_
            rotate_left
            · (intro w hSw; (try dsimp only at hSw); go_simp; first | done | with_reducible rfl)
            try simp only [Act.put, List.setIfInBounds_toArray, List.set_cons_zero, List.set_cons_succ]
            refine wpAnyH_take (i := 1) (oi := ?_) (v := ?_) (by simp only [List.getElem?_toArray, List.getElem?_cons_zero, List.getElem?_cons_succ]; rfl) (by kernel_rfl) (by kernel_rfl) (by kernel_rfl) (by exact fun _ _ _ h => h) (Or.inl ⟨by rfl, ?_⟩) (by assumption) ?_
            rotate_left
            · (intro w2 hw2; refine exec_load_mid 99 (.tmp 7) ?_ G 0 ?_ pc _ ?_ Try.underlying99 rfl ?_; rfl; rfl; exact range_of_block hw2; (rw [HPCL.out]; kernel_rfl))
            try simp only [Act.put, List.setIfInBounds_toArray, List.set_cons_zero, List.set_cons_succ]
            refine wpAnyH_ready (rs := [2, 4]) (by kernel_rfl) (by simp) ?_
            refine AllReadyH.cons (o := ?_) (by simp only [List.getElem?_toArray, List.getElem?_cons_zero, List.getElem?_cons_succ]; rfl) (fun K hK => ?_) ?_
            · refine step_lookup ?hgd (.tmp 26) (.tmp 27) 94 ?ho (.map (some M)) (ptV p) ?hm ?hx _ (MapP.lookup_at HMD.out p HOK.out 1 HY1.out HIN.out) ?_
              case hgd => rfl
              case ho => rfl
              case hm => rfl
              case hx => (rw [HPV.out]; rfl)
              have hS2 := hHeld
              refine hK.out _ _ ?_ (fun hHeld2 => ?_)
              · exact hS2
              clear hK K hHeld
              have hHeld := hHeld2
              clear hHeld2
              try simp only [Act.put, List.setIfInBounds_toArray, List.set_cons_zero, List.set_cons_succ]
              refine wpAnyH_take (i := 3) (oi := ?_) (v := ?_) (by simp only [List.getElem?_toArray, List.getElem?_cons_zero, List.getElem?_cons_succ]; rfl) (by kernel_rfl) (by kernel_rfl) (by kernel_rfl) (by exact fun _ _ _ h => h) (Or.inl ⟨by rfl, ?_⟩) (by assumption) ?_
              rotate_left
              · (intro w hSw; (try dsimp only at hSw); go_simp; first | done | with_reducible rfl)
              try simp only [Act.put, List.setIfInBounds_toArray, List.set_cons_zero, List.set_cons_succ]
              refine wpAnyH_ready (rs := [4]) (by kernel_rfl) (by simp) ?_
              refine AllReadyH.cons (o := ?_) (by simp only [List.getElem?_toArray, List.getElem?_cons_zero, List.getElem?_cons_succ]; rfl) (fun K hK => ?_) ?_
              · obtain ⟨st, W2, hme, hg2, hm2, hes⟩ := MapP.entry_at HMD.out p HOK.out 1 HY1.out HIN.out HND.out
                have HM2 := As.mk hm2
                have HG2 := As.mk hg2
                have HES := As.mk hes
                refine step_mapEntry ?hgd (.tmp 26) (.tmp 27) 94 ?ho (.map (some M)) (ptV p) ?hm ?hx _ W2 hme ?_
                case hgd => rfl
                case ho => rfl
                case hm => rfl
                case hx => (rw [HPV.out]; rfl)
                have hS2 := Box.grown hHeld hg2 (fun e => by injection e with e; exact HGM.out e.symm)
                clear hme hg2 hm2 hes
                refine hK.out _ _ ?_ (fun hHeld2 => ?_)
                · exact hS2
                clear hK K hHeld
                have hHeld := hHeld2
                clear hHeld2
                try simp only [Act.put, List.setIfInBounds_toArray, List.set_cons_zero, List.set_cons_succ]
                refine wpAnyH_take (i := 5) (oi := ?_) (v := ?_) (by simp only [List.getElem?_toArray, List.getElem?_cons_zero, List.getElem?_cons_succ]; rfl) (by kernel_rfl) (by kernel_rfl) (by kernel_rfl) (by exact fun _ _ _ h => h) (Or.inl ⟨by rfl, ?_⟩) (by assumption) ?_
                rotate_left
                · (intro w hSw; (try dsimp only at hSw); go_simp; first | done | with_reducible rfl)
                try simp only [Act.put, List.setIfInBounds_toArray, List.set_cons_zero, List.set_cons_succ]
                refine wpAnyH_ready (rs := [6]) (by kernel_rfl) (by simp) ?_
                refine AllReadyH.cons (o := ?_) (by simp only [List.getElem?_toArray, List.getElem?_cons_zero, List.getElem?_cons_succ]; rfl) (fun K hK => ?_) ?_
                · obtain ⟨W3, kv3, hst, hg3, hm3, hy3, hin3⟩ := HES.out W2 2 rfl
                  have HY3 := As.mk (And.intro hy3 hin3)
                  have HM3 := As.mk hm3
                  have HG3 := As.mk (grown_trans HG2.out hg3)
                  refine step_entryStore ?hgd (.tmp 26) (.tmp 31) (.tmp 29) 94 ?ho (.map (some M)) (.int .i64 (st : Int)) (.int .i64 2) ?hm ?hx ?hy W3 hst ?_
                  case hgd => rfl
                  case ho => rfl
                  case hm => rfl
                  case hx => rfl
                  case hy => rfl
                  have hS2 := Box.grown hHeld hg3 (fun e => by injection e with e; exact HGM.out e.symm)
                  clear hst hg3 hm3 hy3 hin3
                  refine hK.out _ _ ?_ (fun hHeld2 => ?_)
                  · exact hS2
                  clear hK K hHeld
                  have hHeld := hHeld2
                  clear hHeld2
                  try simp only [Act.put, List.setIfInBounds_toArray, List.set_cons_zero, List.set_cons_succ]
                  refine wpAnyH_done (by kernel_rfl) ?_ _
                  have HRW := As.mk (range_of_block hHeld)
                  have HB4 := As.mk (HBD.out.grown HG3.out HBD.out.size (fun k hk => by injection hk with hk; have := HJ.out.2.2.2; omega))
                  clear hHeld
                  go_wp2_with (first | ((with_reducible refine wpList_load_mid (op := ⟨_, .load 99 (.tmp 7), _, _, _, _⟩) ?hgd 99 (.tmp 7) rfl _ _ ?hx pc _ HRW.out Try.underlying99 rfl ?hi ?_); (case hgd => exact rfl); (case hx => exact rfl); (case hi => rw [HPCL.out]; kernel_rfl)) | ((with_reducible refine wpList_lookupR (o := ⟨_, .lookup 94 (.tmp 32) (.tmp 33) false, _, _, _, _⟩) ?hgd (.tmp 32) (.tmp 33) 94 rfl (.map (some M)) (ptV p) ?hm ?hx _ (MapP.lookup_at HM3.out p HOK.out 2 HY3.out.1 HY3.out.2) ?_); (case hgd => exact rfl); (case hm => exact rfl); (case hx => (rw [← HPV.out]; exact rfl))))
                  go_ret
                  rw [HF.out]
                  exact ⟨rfl, HB4.out⟩
                exact AllReadyH.nil
              exact AllReadyH.nil
            refine AllReadyH.cons (o := ?_) (by simp only [List.getElem?_toArray, List.getElem?_cons_zero, List.getElem?_cons_succ]; rfl) (fun K hK => ?_) ?_
            · obtain ⟨st, W2, hme, hg2, hm2, hes⟩ := MapP.entry_at HMD.out p HOK.out 1 HY1.out HIN.out HND.out
              have HM2 := As.mk hm2
              have HG2 := As.mk hg2
              have HES := As.mk hes
              refine step_mapEntry ?hgd (.tmp 26) (.tmp 27) 94 ?ho (.map (some M)) (ptV p) ?hm ?hx _ W2 hme ?_
              case hgd => rfl
              case ho => rfl
              case hm => rfl
              case hx => (rw [HPV.out]; rfl)
              have hS2 := Box.grown hHeld hg2 (fun e => by injection e with e; exact HGM.out e.symm)
              clear hme hg2 hm2 hes
              refine hK.out _ _ ?_ (fun hHeld2 => ?_)
              · exact hS2
              clear hK K hHeld
              have hHeld := hHeld2
              clear hHeld2
              try simp only [Act.put, List.setIfInBounds_toArray, List.set_cons_zero, List.set_cons_succ]
              refine wpAnyH_take (i := 5) (oi := ?_) (v := ?_) (by simp only [List.getElem?_toArray, List.getElem?_cons_zero, List.getElem?_cons_succ]; rfl) (by kernel_rfl) (by kernel_rfl) (by kernel_rfl) (by exact fun _ _ _ h => h) (Or.inl ⟨by rfl, ?_⟩) (by assumption) ?_
              rotate_left
              · (intro w hSw; (try dsimp only at hSw); go_simp; first | done | with_reducible rfl)
              try simp only [Act.put, List.setIfInBounds_toArray, List.set_cons_zero, List.set_cons_succ]
              refine wpAnyH_ready (rs := [2]) (by kernel_rfl) (by simp) ?_
              refine AllReadyH.cons (o := ?_) (by simp only [List.getElem?_toArray, List.getElem?_cons_zero, List.getElem?_cons_succ]; rfl) (fun K hK => ?_) ?_
              · refine step_lookup ?hgd (.tmp 26) (.tmp 27) 94 ?ho (.map (some M)) (ptV p) ?hm ?hx _ (MapP.lookup_at HM2.out p HOK.out 1 HY1.out HIN.out) ?_
                case hgd => rfl
                case ho => rfl
                case hm => rfl
                case hx => (rw [HPV.out]; rfl)
                have hS2 := hHeld
                refine hK.out _ _ ?_ (fun hHeld2 => ?_)
                · exact hS2
                clear hK K hHeld
                have hHeld := hHeld2
                clear hHeld2
                try simp only [Act.put, List.setIfInBounds_toArray, List.set_cons_zero, List.set_cons_succ]
                refine wpAnyH_take (i := 3) (oi := ?_) (v := ?_) (by simp only [List.getElem?_toArray, List.getElem?_cons_zero, List.getElem?_cons_succ]; rfl) (by kernel_rfl) (by kernel_rfl) (by kernel_rfl) (by exact fun _ _ _ h => h) (Or.inl ⟨by rfl, ?_⟩) (by assumption) ?_
                rotate_left
                · (intro w hSw; (try dsimp only at hSw); go_simp; first | done | with_reducible rfl)
                try simp only [Act.put, List.setIfInBounds_toArray, List.set_cons_zero, List.set_cons_succ]
                refine wpAnyH_ready (rs := [6]) (by kernel_rfl) (by simp) ?_
                refine AllReadyH.cons (o := ?_) (by simp only [List.getElem?_toArray, List.getElem?_cons_zero, List.getElem?_cons_succ]; rfl) (fun K hK => ?_) ?_
                · obtain ⟨W3, kv3, hst, hg3, hm3, hy3, hin3⟩ := HES.out W2 2 rfl
                  have HY3 := As.mk (And.intro hy3 hin3)
                  have HM3 := As.mk hm3
                  have HG3 := As.mk (grown_trans HG2.out hg3)
                  refine step_entryStore ?hgd (.tmp 26) (.tmp 31) (.tmp 29) 94 ?ho (.map (some M)) (.int .i64 (st : Int)) (.int .i64 2) ?hm ?hx ?hy W3 hst ?_
                  case hgd => rfl
                  case ho => rfl
                  case hm => rfl
                  case hx => rfl
                  case hy => rfl
                  have hS2 := Box.grown hHeld hg3 (fun e => by injection e with e; exact HGM.out e.symm)
                  clear hst hg3 hm3 hy3 hin3
                  refine hK.out _ _ ?_ (fun hHeld2 => ?_)
                  · exact hS2
                  clear hK K hHeld
                  have hHeld := hHeld2
                  clear hHeld2
                  try simp only [Act.put, List.setIfInBounds_toArray, List.set_cons_zero, List.set_cons_succ]
                  refine wpAnyH_done (by kernel_rfl) ?_ _
                  have HRW := As.mk (range_of_block hHeld)
                  have HB4 := As.mk (HBD.out.grown HG3.out HBD.out.size (fun k hk => by injection hk with hk; have := HJ.out.2.2.2; omega))
                  clear hHeld
                  go_wp2_with (first | ((with_reducible refine wpList_load_mid (op := ⟨_, .load 99 (.tmp 7), _, _, _, _⟩) ?hgd 99 (.tmp 7) rfl _ _ ?hx pc _ HRW.out Try.underlying99 rfl ?hi ?_); (case hgd => exact rfl); (case hx => exact rfl); (case hi => rw [HPCL.out]; kernel_rfl)) | ((with_reducible refine wpList_lookupR (o := ⟨_, .lookup 94 (.tmp 32) (.tmp 33) false, _, _, _, _⟩) ?hgd (.tmp 32) (.tmp 33) 94 rfl (.map (some M)) (ptV p) ?hm ?hx _ (MapP.lookup_at HM3.out p HOK.out 2 HY3.out.1 HY3.out.2) ?_); (case hgd => exact rfl); (case hm => exact rfl); (case hx => (rw [← HPV.out]; exact rfl))))
                  go_ret
                  rw [HF.out]
                  exact ⟨rfl, HB4.out⟩
                exact AllReadyH.nil
              exact AllReadyH.nil
            exact AllReadyH.nil
          · have HNW : As (∀ q ∈ ones (ps.take i), q.1 ≠ p) := ⟨fun q hq he => by unfold ones at hq; obtain ⟨a, ha, rfl⟩ := List.mem_map.1 hq; exact hin (he ▸ ha)⟩
            have HND : As ((ps.take (i + 1)).Nodup) := ⟨(nodup_step HK.out HJ.out.2.2.1).2 hin⟩
            have HVS : As (ones (ps.take i) ++ [(p, 1)] = ones (ps.take (i + 1))) := ⟨by unfold ones; rw [List.take_add_one, HK.out]; simp⟩
            clear hin
            refine wp_region_held_drew (S := (fun V : World => Box V G pc.toArray 99)) (by kernel_rfl) ?_ (fun hHeld => ?_)
            · exact Box.below HBX.out (below_dr W1)
            refine wpAnyH_take (i := 0) (oi := ?_) (v := ?_) (by simp only [List.getElem?_toArray, List.getElem?_cons_zero, List.getElem?_cons_succ]; rfl) (by kernel_rfl) (by kernel_rfl) (by kernel_rfl) (by exact fun _ _ _ h => h) (Or.inl ⟨by rfl, ?_⟩) (by assumption) ?_
            rotate_left
            · (intro w hSw; (try dsimp only at hSw); go_simp; first | done | with_reducible rfl)
            try simp only [Act.put, List.setIfInBounds_toArray, List.set_cons_zero, List.set_cons_succ]
            refine wpAnyH_take (i := 1) (oi := ?_) (v := ?_) (by simp only [List.getElem?_toArray, List.getElem?_cons_zero, List.getElem?_cons_succ]; rfl) (by kernel_rfl) (by kernel_rfl) (by kernel_rfl) (by exact fun _ _ _ h => h) (Or.inl ⟨by rfl, ?_⟩) (by assumption) ?_
            rotate_left
            · (intro w2 hw2; refine exec_load_mid 99 (.tmp 7) ?_ G 0 ?_ pc _ ?_ Try.underlying99 rfl ?_; rfl; rfl; exact range_of_block hw2; (rw [HPCL.out]; kernel_rfl))
            try simp only [Act.put, List.setIfInBounds_toArray, List.set_cons_zero, List.set_cons_succ]
            refine wpAnyH_ready (rs := [2, 4]) (by kernel_rfl) (by simp) ?_
            refine AllReadyH.cons (o := ?_) (by simp only [List.getElem?_toArray, List.getElem?_cons_zero, List.getElem?_cons_succ]; rfl) (fun K hK => ?_) ?_
            · refine step_lookup ?hgd (.tmp 26) (.tmp 27) 94 ?ho (.map (some M)) (ptV p) ?hm ?hx _ (MapP.lookup_no HMD.out p HOK.out HNW.out) ?_
              case hgd => rfl
              case ho => rfl
              case hm => rfl
              case hx => (rw [HPV.out]; rfl)
              have hS2 := hHeld
              refine hK.out _ _ ?_ (fun hHeld2 => ?_)
              · exact hS2
              clear hK K hHeld
              have hHeld := hHeld2
              clear hHeld2
              try simp only [Act.put, List.setIfInBounds_toArray, List.set_cons_zero, List.set_cons_succ]
              refine wpAnyH_take (i := 3) (oi := ?_) (v := ?_) (by simp only [List.getElem?_toArray, List.getElem?_cons_zero, List.getElem?_cons_succ]; rfl) (by kernel_rfl) (by kernel_rfl) (by kernel_rfl) (by exact fun _ _ _ h => h) (Or.inl ⟨by rfl, ?_⟩) (by assumption) ?_
              rotate_left
              · (intro w hSw; (try dsimp only at hSw); go_simp; first | done | with_reducible rfl)
              try simp only [Act.put, List.setIfInBounds_toArray, List.set_cons_zero, List.set_cons_succ]
              refine wpAnyH_ready (rs := [4]) (by kernel_rfl) (by simp) ?_
              refine AllReadyH.cons (o := ?_) (by simp only [List.getElem?_toArray, List.getElem?_cons_zero, List.getElem?_cons_succ]; rfl) (fun K hK => ?_) ?_
              · obtain ⟨st, W2, hme, hg2, hm2, hes⟩ := MapP.entry_new HMD.out p HOK.out HNW.out
                have HM2 := As.mk hm2
                have HG2 := As.mk hg2
                have HES := As.mk hes
                refine step_mapEntry ?hgd (.tmp 26) (.tmp 27) 94 ?ho (.map (some M)) (ptV p) ?hm ?hx _ W2 hme ?_
                case hgd => rfl
                case ho => rfl
                case hm => rfl
                case hx => (rw [HPV.out]; rfl)
                have hS2 := Box.grown hHeld hg2 (fun e => by injection e with e; exact HGM.out e.symm)
                clear hme hg2 hm2 hes
                refine hK.out _ _ ?_ (fun hHeld2 => ?_)
                · exact hS2
                clear hK K hHeld
                have hHeld := hHeld2
                clear hHeld2
                try simp only [Act.put, List.setIfInBounds_toArray, List.set_cons_zero, List.set_cons_succ]
                refine wpAnyH_take (i := 5) (oi := ?_) (v := ?_) (by simp only [List.getElem?_toArray, List.getElem?_cons_zero, List.getElem?_cons_succ]; rfl) (by kernel_rfl) (by kernel_rfl) (by kernel_rfl) (by exact fun _ _ _ h => h) (Or.inl ⟨by rfl, ?_⟩) (by assumption) ?_
                rotate_left
                · (intro w hSw; (try dsimp only at hSw); go_simp; first | done | with_reducible rfl)
                try simp only [Act.put, List.setIfInBounds_toArray, List.set_cons_zero, List.set_cons_succ]
                refine wpAnyH_ready (rs := [6]) (by kernel_rfl) (by simp) ?_
                refine AllReadyH.cons (o := ?_) (by simp only [List.getElem?_toArray, List.getElem?_cons_zero, List.getElem?_cons_succ]; rfl) (fun K hK => ?_) ?_
                · obtain ⟨W3, hst, hg3, hm3⟩ := HES.out W2 1 rfl
                  have HM3 := As.mk hm3
                  have HG3 := As.mk (grown_trans HG2.out hg3)
                  refine step_entryStore ?hgd (.tmp 26) (.tmp 31) (.tmp 29) 94 ?ho (.map (some M)) (.int .i64 (st : Int)) (.int .i64 1) ?hm ?hx ?hy W3 hst ?_
                  case hgd => rfl
                  case ho => rfl
                  case hm => rfl
                  case hx => rfl
                  case hy => rfl
                  have hS2 := Box.grown hHeld hg3 (fun e => by injection e with e; exact HGM.out e.symm)
                  clear hst hg3 hm3
                  refine hK.out _ _ ?_ (fun hHeld2 => ?_)
                  · exact hS2
                  clear hK K hHeld
                  have hHeld := hHeld2
                  clear hHeld2
                  try simp only [Act.put, List.setIfInBounds_toArray, List.set_cons_zero, List.set_cons_succ]
                  refine wpAnyH_done (by kernel_rfl) ?_ _
                  have HRW := As.mk (range_of_block hHeld)
                  have HB4 := As.mk (HBD.out.grown HG3.out HBD.out.size (fun k hk => by injection hk with hk; have := HJ.out.2.2.2; omega))
                  have HP4 := As.mk (HLP.out.mapGrown HMD.out HG3.out)
                  clear hHeld
                  go_wp2_with (first | ((with_reducible refine wpList_load_mid (op := ⟨_, .load 99 (.tmp 7), _, _, _, _⟩) ?hgd 99 (.tmp 7) rfl _ _ ?hx pc _ HRW.out Try.underlying99 rfl ?hi ?_); (case hgd => exact rfl); (case hx => exact rfl); (case hi => rw [HPCL.out]; kernel_rfl)) | ((with_reducible refine wpList_lookupR (o := ⟨_, .lookup 94 (.tmp 32) (.tmp 33) false, _, _, _, _⟩) ?hgd (.tmp 32) (.tmp 33) 94 rfl (.map (some M)) (ptV p) ?hm ?hx _ (MapP.lookup_at HM3.out p HOK.out 1 (new_at HNW.out) ⟨(p, 1), by simp, rfl⟩) ?_); (case hgd => exact rfl); (case hm => exact rfl); (case hx => (rw [← HPV.out]; exact rfl))))
                  go_roundw
                  case rel => exact ⟨i + 1, by go_num, by omega, HB4, ⟨by rw [← HVS.out]; exact HM3.out, HP4.out, HND.out, HJ.out.2.2.2⟩⟩
                  case measure => simp [intOf]; omega
                exact AllReadyH.nil
              exact AllReadyH.nil
            refine AllReadyH.cons (o := ?_) (by simp only [List.getElem?_toArray, List.getElem?_cons_zero, List.getElem?_cons_succ]; rfl) (fun K hK => ?_) ?_
            · obtain ⟨st, W2, hme, hg2, hm2, hes⟩ := MapP.entry_new HMD.out p HOK.out HNW.out
              have HM2 := As.mk hm2
              have HG2 := As.mk hg2
              have HES := As.mk hes
              refine step_mapEntry ?hgd (.tmp 26) (.tmp 27) 94 ?ho (.map (some M)) (ptV p) ?hm ?hx _ W2 hme ?_
              case hgd => rfl
              case ho => rfl
              case hm => rfl
              case hx => (rw [HPV.out]; rfl)
              have hS2 := Box.grown hHeld hg2 (fun e => by injection e with e; exact HGM.out e.symm)
              clear hme hg2 hm2 hes
              refine hK.out _ _ ?_ (fun hHeld2 => ?_)
              · exact hS2
              clear hK K hHeld
              have hHeld := hHeld2
              clear hHeld2
              try simp only [Act.put, List.setIfInBounds_toArray, List.set_cons_zero, List.set_cons_succ]
              refine wpAnyH_take (i := 5) (oi := ?_) (v := ?_) (by simp only [List.getElem?_toArray, List.getElem?_cons_zero, List.getElem?_cons_succ]; rfl) (by kernel_rfl) (by kernel_rfl) (by kernel_rfl) (by exact fun _ _ _ h => h) (Or.inl ⟨by rfl, ?_⟩) (by assumption) ?_
              rotate_left
              · (intro w hSw; (try dsimp only at hSw); go_simp; first | done | with_reducible rfl)
              try simp only [Act.put, List.setIfInBounds_toArray, List.set_cons_zero, List.set_cons_succ]
              refine wpAnyH_ready (rs := [2]) (by kernel_rfl) (by simp) ?_
              refine AllReadyH.cons (o := ?_) (by simp only [List.getElem?_toArray, List.getElem?_cons_zero, List.getElem?_cons_succ]; rfl) (fun K hK => ?_) ?_
              · refine step_lookup ?hgd (.tmp 26) (.tmp 27) 94 ?ho (.map (some M)) (ptV p) ?hm ?hx _ (MapP.lookup_at HM2.out p HOK.out 0 (new_at HNW.out) ⟨(p, 0), by simp, rfl⟩) ?_
                case hgd => rfl
                case ho => rfl
                case hm => rfl
                case hx => (rw [HPV.out]; rfl)
                have hS2 := hHeld
                refine hK.out _ _ ?_ (fun hHeld2 => ?_)
                · exact hS2
                clear hK K hHeld
                have hHeld := hHeld2
                clear hHeld2
                try simp only [Act.put, List.setIfInBounds_toArray, List.set_cons_zero, List.set_cons_succ]
                refine wpAnyH_take (i := 3) (oi := ?_) (v := ?_) (by simp only [List.getElem?_toArray, List.getElem?_cons_zero, List.getElem?_cons_succ]; rfl) (by kernel_rfl) (by kernel_rfl) (by kernel_rfl) (by exact fun _ _ _ h => h) (Or.inl ⟨by rfl, ?_⟩) (by assumption) ?_
                rotate_left
                · (intro w hSw; (try dsimp only at hSw); go_simp; first | done | with_reducible rfl)
                try simp only [Act.put, List.setIfInBounds_toArray, List.set_cons_zero, List.set_cons_succ]
                refine wpAnyH_ready (rs := [6]) (by kernel_rfl) (by simp) ?_
                refine AllReadyH.cons (o := ?_) (by simp only [List.getElem?_toArray, List.getElem?_cons_zero, List.getElem?_cons_succ]; rfl) (fun K hK => ?_) ?_
                · obtain ⟨W3, hst, hg3, hm3⟩ := HES.out W2 1 rfl
                  have HM3 := As.mk hm3
                  have HG3 := As.mk (grown_trans HG2.out hg3)
                  refine step_entryStore ?hgd (.tmp 26) (.tmp 31) (.tmp 29) 94 ?ho (.map (some M)) (.int .i64 (st : Int)) (.int .i64 1) ?hm ?hx ?hy W3 hst ?_
                  case hgd => rfl
                  case ho => rfl
                  case hm => rfl
                  case hx => rfl
                  case hy => rfl
                  have hS2 := Box.grown hHeld hg3 (fun e => by injection e with e; exact HGM.out e.symm)
                  clear hst hg3 hm3
                  refine hK.out _ _ ?_ (fun hHeld2 => ?_)
                  · exact hS2
                  clear hK K hHeld
                  have hHeld := hHeld2
                  clear hHeld2
                  try simp only [Act.put, List.setIfInBounds_toArray, List.set_cons_zero, List.set_cons_succ]
                  refine wpAnyH_done (by kernel_rfl) ?_ _
                  have HRW := As.mk (range_of_block hHeld)
                  have HB4 := As.mk (HBD.out.grown HG3.out HBD.out.size (fun k hk => by injection hk with hk; have := HJ.out.2.2.2; omega))
                  have HP4 := As.mk (HLP.out.mapGrown HMD.out HG3.out)
                  clear hHeld
                  go_wp2_with (first | ((with_reducible refine wpList_load_mid (op := ⟨_, .load 99 (.tmp 7), _, _, _, _⟩) ?hgd 99 (.tmp 7) rfl _ _ ?hx pc _ HRW.out Try.underlying99 rfl ?hi ?_); (case hgd => exact rfl); (case hx => exact rfl); (case hi => rw [HPCL.out]; kernel_rfl)) | ((with_reducible refine wpList_lookupR (o := ⟨_, .lookup 94 (.tmp 32) (.tmp 33) false, _, _, _, _⟩) ?hgd (.tmp 32) (.tmp 33) 94 rfl (.map (some M)) (ptV p) ?hm ?hx _ (MapP.lookup_at HM3.out p HOK.out 1 (new_at HNW.out) ⟨(p, 1), by simp, rfl⟩) ?_); (case hgd => exact rfl); (case hm => exact rfl); (case hx => (rw [← HPV.out]; exact rfl))))
                  go_roundw
                  case rel => exact ⟨i + 1, by go_num, by omega, HB4, ⟨by rw [← HVS.out]; exact HM3.out, HP4.out, HND.out, HJ.out.2.2.2⟩⟩
                  case measure => simp [intOf]; omega
                exact AllReadyH.nil
              exact AllReadyH.nil
            exact AllReadyH.nil
        · have hie : i = ps.length := by omega
          have HF : As (insT t.ins = 0) := ⟨by unfold insT; rw [if_neg HNN.out, HPS.out, if_pos (by have := HJ.out.2.2.1; rw [hie, List.take_length] at this; exact this)]⟩
          clear hie
          go_wp2
          go_ret
          rw [HF.out]
          exact ⟨rfl, HB.out⟩
end Go.Proofs.Ytfggkljgfadacaa.W
