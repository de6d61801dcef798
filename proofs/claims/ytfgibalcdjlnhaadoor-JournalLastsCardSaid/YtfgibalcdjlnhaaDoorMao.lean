/-
  A disk: what it is; bytes put into a string; small functions. Conditions: none.
  A disk's small methods: New, Down, Size, Start, Lose, Arm, Read, may, ends. Conditions: none.
-/
import Derived.DeepKeys4
import Derived.WideKeyMaps2
import Derived.Handy
import Derived.Lib.LazyBuf
import Derived.Test.YtfgibalcdjlnhaaDoorMan
section
set_option linter.unusedSimpArgs false
set_option linter.unusedVariables false
namespace Go.Proofs.YtfgibalcdjlnhaaDoor
open Go.RowKit Go.ChangeMaps Go.WideMaps

theorem laidOut' : laidOutB Tryd.prog = true := by kernel_rfl
/-- A file: what it is now, what is durable. -/
structure Fl where
  now : ByteArray
  last : ByteArray
abbrev nofile : Fl := ⟨⟨#[]⟩, ⟨#[]⟩⟩
abbrev Fl.d (x : Fl) : D := .agg [.str x.now, .str x.last]
/-- A sector: its file and its number. -/
abbrev Sec := Int × Int
def intV (n : Int) : Value := .int .i64 n
def secV (p : Sec) : Value := .agg #[.int .i64 p.1, .int .i64 p.2]
def secC (p : Sec) : List D := [.int p.1, .int p.2]
theorem secV_inj {p q : Sec} (h : secV p = secV q) : p = q := by
  obtain ⟨a, b⟩ := p
  obtain ⟨c, d⟩ := q
  simp only [secV, Value.agg.injEq, Array.mk.injEq, List.cons.injEq, Value.int.injEq, true_and, and_true] at h
  rw [h.1, h.2]
theorem intV_inj {a b : Int} (h : intV a = intV b) : a = b := by
  simpa [intV] using h
def i64 (n : Int) : Prop := -9223372036854775808 ≤ n ∧ n ≤ 9223372036854775807
theorem wf_i64 {n : Int} (h : i64 n) : (Lit.int .i64 n).wf = true := by
  have := h.1
  have := h.2
  simp [Lit.wf, IntKind.min, IntKind.max, IntKind.signed, IntKind.bits]
  omega
theorem infoFile : (Tryd.prog.info? 72).map (fun i => (i.zero, i.size, i.bytes)) = some (some (.agg #[.string ⟨#[]⟩, .string ⟨#[]⟩]), 2, 32) := by kernel_rfl
theorem infoBool : (Tryd.prog.info? 4).map (fun i => (i.zero, i.size, i.bytes)) = some (some (.bool false), 1, 1) := by kernel_rfl
theorem fileM : MapT 60 3 72 nofile.d (.agg #[.string ⟨#[]⟩, .string ⟨#[]⟩]) where
  u := Tryd.underlying60
  K := Maps.int_keyed Tryd.underlying3
  zero := fun w => by
    obtain ⟨i0, hi, hz0, _⟩ := info_parts infoFile
    simp [zeroValue, typeInfo, hi, hz0]
  zr := fun _ _ => .agg [.string ⟨#[]⟩, .string ⟨#[]⟩] _ rfl (fun i v d h1 h2 => by
    match i with
    | 0 => cases h1; cases h2; exact .val _
    | 1 => cases h1; cases h2; exact .val _)
theorem sector_law : KeyLaw Tryd.prog 78 := deep_law_laid laidOut' (m := 3) (by decide) (by decide +kernel) (by kernel_rfl) (by kernel_rfl)
theorem setM : MapT 61 78 4 (D.bool false) (.bool false) where
  u := Tryd.underlying61
  K := Maps.Keyed.of_law sector_law
  zero := fun w => by
    obtain ⟨i0, hi, hz0, _⟩ := info_parts infoBool
    simp [zeroValue, typeInfo, hi, hz0]
  zr := fun _ _ => .val _
theorem int_key {n : Int} (h : i64 n) : KeyOk 60 (intV n) := by
  refine KeyOk.of fileM (lit := .int .i64 n) ?_
  unfold keyOf
  rw [Tryd.underlying3]
  simp [intV, mapKey, wf_i64 h]
theorem sec_key {p : Sec} (h1 : i64 p.1) (h2 : i64 p.2) : KeyOk 61 (secV p) := by
  obtain ⟨n, hn⟩ : ∃ n, Tryd.prog.types.size = n + 1 := ⟨Tryd.prog.types.size - 1, by decide +kernel⟩
  have hc : Tryd.prog.cellsOf 78 = 2 := by kernel_rfl
  have hci : Tryd.prog.cellsOf 3 = 1 := by kernel_rfl
  have hl : Tryd.prog.keyLits (Tryd.prog.types.size + 1) 78 (secV p).cells.toList = some [.int .i64 p.1, .int .i64 p.2] := by
    rw [hn]
    simp [Program.keyLits, Tryd.underlying78, hc, secV, Value.cells, hci, wf_i64 h1, wf_i64 h2]
  have hk : Tryd.prog.keyType 78 = true := by kernel_rfl
  have hf : (secV p).formed Tryd.prog 78 = true := by
    simp only [secV, Value.formed, Tryd.underlying78, hc]
    rfl
  refine KeyOk.of setM (lit := .string (keyBytes [.int .i64 p.1, .int .i64 p.2])) ?_
  unfold keyOf
  rw [Tryd.underlying78]
  simp only [hk, hf, hl, Bool.and_self, if_true, Option.map_some]
/-- What the map of files shows. -/
structure FRep (l : List ME) (F : Int → Fl) : Prop where
  of : ∀ q ∈ l, ∃ n, q.2.1 = intV n ∧ q.2.2 = (F n).d ∧ 0 ≤ n ∧ n < 16
  all : ∀ n, (∀ q ∈ l, q.2.1 ≠ intV n) → F n = nofile
/-- What the set of pending sectors shows. -/
structure SRep (l : List ME) (Q : List Sec) : Prop where
  of : ∀ q ∈ l, ∃ p ∈ Q, q.2.1 = secV p ∧ q.2.2 = .bool true
  all : ∀ p ∈ Q, ∃ q ∈ l, q.2.1 = secV p
theorem mem_split {l : List ME} (k : Value) : (∃ (j n : Nat) (d : D), l[j]? = some (n, k, d)) ∨ ∀ q ∈ l, q.2.1 ≠ k := by
  by_cases h : ∃ q ∈ l, q.2.1 = k
  · obtain ⟨⟨n, k', d⟩, hq, rfl⟩ := h
    obtain ⟨j, hj⟩ := List.mem_iff_getElem?.1 hq
    exact .inl ⟨j, n, d, hj⟩
  · exact .inr fun q hq e => h ⟨q, hq, e⟩
theorem FRep.hit {l : List ME} {F : Int → Fl} (h : FRep l F) (n : Int) : ∃ b, Hit l (intV n) nofile.d (F n).d b := by
  rcases mem_split (l := l) (intV n) with ⟨j, i, d, hj⟩ | hn
  · obtain ⟨m, h1, h2, _⟩ := h.of _ (List.mem_of_getElem? hj)
    have : m = n := (intV_inj h1).symm
    subst this
    have h2 : d = (F m).d := h2
    subst h2
    exact ⟨true, .yes j i _ hj⟩
  · have := h.all n hn
    rw [this]
    exact ⟨false, .no hn⟩
theorem SRep.yes {l : List ME} {Q : List Sec} (h : SRep l Q) {p : Sec} (hp : p ∈ Q) : ∃ b, Hit l (secV p) (.bool false) (.bool true) b := by
  obtain ⟨⟨n, k, d⟩, hq, e⟩ := h.all p hp
  obtain ⟨p', _, h1, h2⟩ := h.of _ hq
  have e : k = secV p := e
  have h2 : d = .bool true := h2
  subst e h2
  obtain ⟨j, hj⟩ := List.mem_iff_getElem?.1 hq
  exact ⟨true, .yes j n _ hj⟩
theorem SRep.none {l : List ME} {Q : List Sec} (h : SRep l Q) {p : Sec} (hp : p ∉ Q) : ∀ q ∈ l, q.2.1 ≠ secV p := fun q hq e => by
  obtain ⟨p', hp', h1, _⟩ := h.of q hq
  exact hp (secV_inj (e.symm.trans h1) ▸ hp')
def upd (F : Int → Fl) (f : Int) (x : Fl) : Int → Fl := fun n => if n = f then x else F n
theorem upd_same (F : Int → Fl) (f : Int) (x : Fl) : upd F f x f = x := by simp [upd]
theorem upd_ne (F : Int → Fl) {f n : Int} (x : Fl) (h : n ≠ f) : upd F f x n = F n := by simp [upd, h]
theorem set_get {α : Type} {l : List α} {j : Nat} {x q : α} (h : q ∈ l.set j x) : q = x ∨ ∃ i, i ≠ j ∧ l[i]? = some q := by
  obtain ⟨i, hi⟩ := List.mem_iff_getElem?.1 h
  by_cases e : i = j
  · subst e
    have hlt : i < l.length := by have := (List.getElem?_eq_some_iff.1 hi).1; simpa using this
    rw [List.getElem?_set_self hlt] at hi
    cases hi
    exact .inl rfl
  · rw [List.getElem?_set_ne (Ne.symm e)] at hi
    exact .inr ⟨i, e, hi⟩
theorem FRep.put {l : List ME} {F : Int → Fl} {c : Nat} (h : FRep l F) (hm : MapOk 60 c l) {f : Int} (hf : 0 ≤ f ∧ f < 16) (x : Fl) : ∃ c' l', Put c l (intV f) x.d c' l' ∧ FRep l' (upd F f x) := by
  rcases mem_split (l := l) (intV f) with ⟨j, i, d, hj⟩ | hn
  · refine ⟨_, _, .old j i d hj, fun q hq => ?_, fun n hn => ?_⟩
    · rcases set_get hq with rfl | ⟨t, ht, htq⟩
      · exact ⟨f, rfl, by rw [upd_same], hf⟩
      · obtain ⟨m, h1, h2, h3⟩ := h.of q (List.mem_of_getElem? htq)
        have hmf : m ≠ f := by
          rintro rfl
          exact ht (nodup_one (f := fun q : ME => q.2.1) hm.keys htq hj h1)
        exact ⟨m, h1, by rw [upd_ne F x hmf]; exact h2, h3⟩
    · have hlt := (List.getElem?_eq_some_iff.1 hj).1
      have hnf : n ≠ f := by
        rintro rfl
        exact hn _ (List.mem_of_getElem? (List.getElem?_set_self hlt)) rfl
      rw [upd_ne F x hnf]
      refine h.all n fun q hq e => ?_
      obtain ⟨t, ht⟩ := List.mem_iff_getElem?.1 hq
      by_cases htj : t = j
      · subst htj
        rw [hj] at ht
        cases ht
        exact hnf (intV_inj e).symm
      · exact hn q (List.mem_of_getElem? (by rw [List.getElem?_set_ne (Ne.symm htj)]; exact ht)) e
  · refine ⟨_, _, .new hn, fun q hq => ?_, fun n hnn => ?_⟩
    · rcases List.mem_append.1 hq with hq0 | hq
      · obtain ⟨m, h1, h2, h3⟩ := h.of q hq0
        have hmf : m ≠ f := by
          rintro rfl
          exact hn q hq0 h1
        exact ⟨m, h1, by rw [upd_ne F x hmf]; exact h2, h3⟩
      · simp at hq
        subst hq
        exact ⟨f, rfl, by rw [upd_same], hf⟩
    · have hnf : n ≠ f := by
        rintro rfl
        exact hnn (c, intV n, x.d) (by simp) rfl
      rw [upd_ne F x hnf]
      exact h.all n fun q hq => hnn q (List.mem_append_left _ hq)
theorem SRep.put {l : List ME} {Q : List Sec} (h : SRep l Q) (p : Sec) (c : Nat) : SRep ((l ++ [(c, secV p, D.bool false)]).set l.length (c, secV p, D.bool true)) (Q ++ [p]) := by
  rw [List.set_append_right _ _ (Nat.le_refl _), Nat.sub_self]
  simp only [List.set_cons_zero]
  refine ⟨fun q hq => ?_, fun p' hp => ?_⟩
  · rcases List.mem_append.1 hq with hq | hq
    · obtain ⟨p', h1, h2⟩ := h.of q hq
      exact ⟨p', List.mem_append_left _ h1, h2⟩
    · simp at hq
      subst hq
      exact ⟨p, by simp, rfl, rfl⟩
  · rcases List.mem_append.1 hp with hp | hp
    · obtain ⟨q, h1, h2⟩ := h.all p' hp
      exact ⟨q, List.mem_append_left _ h1, h2⟩
    · simp at hp
      subst hp
      exact ⟨_, List.mem_append_right _ (List.mem_singleton.2 rfl), rfl⟩
section
variable {E : Entry} {sl : Slots} {ob : Objs}
/-- what holds of a map's entries -/
theorem aw_mapok {t : TypeId} {c : Nat} {l : List ME} {z : Code} {Q : Exit → Act → World → Prop} (i : Nat) (hf : find ob i = some (.map t c l)) (h : MapOk t c l → AW E z Q sl ob) : AW E z Q sl ob := ⟨fun a w ⟨Pr, β, κ, hg⟩ => by
  obtain ⟨_, _, _, _, _, ⟨_, hok⟩, _⟩ := hg.objs i _ hf
  exact (h hok).run a w ⟨Pr, β, κ, hg⟩⟩
end
/-- A disk. -/
structure DS where
  F : Int → Fl
  Q : List Sec
  lost : Int
  down : Bool
  armed : Int
  keep : List Int
/-- what a queue may hold -/
structure QOk (Q : List Sec) : Prop where
  nodup : Q.Nodup
  file : ∀ p ∈ Q, 0 ≤ p.1 ∧ p.1 < 16
  num : ∀ p ∈ Q, 0 ≤ p.2 ∧ p.2 ≤ 262144
/-- what a disk may hold -/
structure DS.Ok (st : DS) : Prop where
  now : ∀ f, (st.F f).now.size ≤ 16777216
  last : ∀ f, (st.F f).last.size ≤ 16777216
  out : ∀ f, ¬ (0 ≤ f ∧ f < 16) → st.F f = nofile
  nodup : st.Q.Nodup
  file : ∀ p ∈ st.Q, 0 ≤ p.1 ∧ p.1 < 16
  num : ∀ p ∈ st.Q, 0 ≤ p.2 ∧ p.2 ≤ 262144
  lost0 : 0 ≤ st.lost ∧ st.lost ≤ 9223372036854775807
  armed0 : 0 ≤ st.armed ∧ st.armed ≤ 9223372036854775807
  keepl : st.keep.length ≤ 1000000
abbrev keepD (l : List Int) : D := .list 1 (l.map fun n => [D.int n])
abbrev dskBox (m r s k : Nat) (st : DS) : O := .box 64 [.mp m, .row r k, .mp s, .d (.int st.lost), .d (.bool st.down), .d (.int st.armed), .d (keepD st.keep)]
abbrev dsk (b m r s k cm cs : Nat) (lm ls : List ME) (st : DS) : Objs := [(b, dskBox m r s k st), (m, .map 60 cm lm), (r, .vec 78 2 k (st.Q.map secC)), (s, .map 61 cs ls)]
structure DkOk (lm ls : List ME) (st : DS) : Prop where
  f : FRep lm st.F
  s : SRep ls st.Q
  ok : st.Ok
theorem nodup_nats : ∀ (n : Nat) (l : List Nat), l.Nodup → (∀ x ∈ l, x < n) → l.length ≤ n
  | 0, l, _, h => by
    cases l with
    | nil => simp
    | cons x l => exact absurd (h x (by simp)) (Nat.not_lt_zero _)
  | n + 1, l, hn, h => by
    by_cases hm : n ∈ l
    · have h1 := nodup_nats n (l.erase n) (hn.erase n) (fun x hx => by
        have h2 := h x (List.mem_of_mem_erase hx)
        have h3 : x ≠ n := fun e => by
          rw [e] at hx
          exact (List.Nodup.not_mem_erase hn) hx
        omega)
      have := List.length_erase_of_mem hm
      omega
    · have := nodup_nats n l hn (fun x hx => by
        have h2 := h x hx
        have h3 : x ≠ n := fun e => hm (e ▸ hx)
        omega)
      omega
theorem QOk.len {Q : List Sec} (h : QOk Q) : Q.length ≤ 4194320 := by
  have h1 : (Q.map fun p => (p.1 * 262145 + p.2).toNat).Nodup := by
    refine (List.pairwise_map).2 ?_
    refine List.Pairwise.imp_of_mem ?_ h.nodup
    intro a b ha hb hne e
    obtain ⟨a1, a2⟩ := h.file a ha
    obtain ⟨a3, a4⟩ := h.num a ha
    obtain ⟨b1, b2⟩ := h.file b hb
    obtain ⟨b3, b4⟩ := h.num b hb
    apply hne
    have e1 : a.1 * 262145 + a.2 = b.1 * 262145 + b.2 := by omega
    have e2 : a.1 = b.1 := by omega
    have e3 : a.2 = b.2 := by omega
    exact Prod.ext e2 e3
  have := nodup_nats 4194320 _ h1 (fun x hx => by
    obtain ⟨p, hp, rfl⟩ := List.mem_map.1 hx
    have := h.file p hp
    have := h.num p hp
    omega)
  simpa using this
theorem DS.Ok.q {st : DS} (h : st.Ok) : QOk st.Q := ⟨h.nodup, h.file, h.num⟩
theorem DS.Ok.len {st : DS} (h : st.Ok) : st.Q.length ≤ 4194320 := h.q.len
/-- bytes that are put into bytes -/
def splice (l : List UInt8) (o : Nat) (m : List UInt8) : List UInt8 := l.take o ++ m ++ l.drop (o + m.length)
theorem splice_len {l : List UInt8} {o : Nat} {m : List UInt8} (h : o + m.length ≤ l.length) : (splice l o m).length = l.length := by simp [splice]; omega
def putB (s : ByteArray) (at_ : Nat) (t : ByteArray) : ByteArray := if t.size = 0 then s else ⟨(splice (splice (List.replicate (max s.size (at_ + t.size)) 0) 0 s.data.toList) at_ t.data.toList).toArray⟩
def bytesV (l : List UInt8) : List V := l.map fun u => .d (.val (.int .u8 u.toNat))
theorem put_bytes (l : List UInt8) (o : Nat) (s : ByteArray) : Go.Proofs.YtfgibalcdjlnhaaDoor.put (bytesV l) o (byteV s) = bytesV (splice l o s.data.toList) := by
  simp [Go.Proofs.YtfgibalcdjlnhaaDoor.put, bytesV, byteV, splice]
theorem bytes_zero (n : Nat) : List.replicate n (V.d (.val (.int .u8 0))) = bytesV (List.replicate n 0) := by simp [bytesV]
theorem putB_size {s : ByteArray} {at_ : Nat} {t : ByteArray} : (putB s at_ t).size = if t.size = 0 then s.size else max s.size (at_ + t.size) := by
  unfold putB
  by_cases h : t.size = 0
  · rw [if_pos h, if_pos h]
  · rw [if_neg h, if_neg h]
    have h1 := Lib.size_eq s
    have h2 := Lib.size_eq t
    show (splice _ _ _).toArray.size = _
    have h3 : (splice (List.replicate (max s.size (at_ + t.size)) 0) 0 s.data.toList).length = max s.size (at_ + t.size) := by
      rw [splice_len] <;> simp <;> omega
    rw [List.size_toArray, splice_len (by rw [h3]; omega), h3]
attribute [local irreducible] splice
set_option maxHeartbeats 4000000 in
set_option maxRecDepth 20000 in
theorem put_any (s : ByteArray) (at_ : Nat) (t : ByteArray) (hs : s.size ≤ 16777216) (ht : at_ + t.size ≤ 16777216) : PureC 46 [.str s, .int at_, .str t] (· = .str (putB s at_ t)) := by
  by_cases h0 : t.size = 0
  · have e0 : t = ⟨#[]⟩ := by
      have h1 := Lib.size_eq t
      cases t with
      | mk d =>
        have h2 : d.toList.length = 0 := by
          have h3 : (⟨d⟩ : ByteArray).data.toList.length = d.toList.length := rfl
          omega
        have : d.toList = [] := List.eq_nil_of_length_eq_zero h2
        have : d = #[] := by simpa using this
        rw [this]
    have hq : decide (t = ⟨#[]⟩) = true := decide_eq_true e0
    refine pure_enter Tryd.func46 rfl (by decide) _ Tryd.ntmps46 (le_ok rfl) (fun w Pr hE => ?_)
    dsimp only [slotsOf, Nat.zero_add, Nat.reduceAdd]
    repeat' (first | apply aw_seq | apply aw_region | apply al_nil | apply aq_np | apply aq_then | apply aq_then_x | apply aq_then_r | apply aw_skip | apply aw_exit | apply aw_ret | (apply at_op (.move _); refine r_move ?_) | (apply at_op (.assign _); refine r_assign ?_) | (apply at_cond; first | refine c_t ?_ | refine c_f ?_ | (refine aw_cond rfl (fun hb => ?_) (fun hb => ?_) <;> ((first | have hq := of_decide_eq_true hb | have hq := of_decide_eq_false hb | have hq := dNT hb | have hq := dNF hb | skip); (try (exfalso; omega))))) | (apply at_op (.binOp .eql _ _ _ _); refine r_eql ?_) | (apply at_op (.binOp .add _ _ _ _); refine r_add ?_) | (apply at_op (.convert _ _ _); refine r_conv ?_) | (apply at_op (.call { callee := .builtin .max, args := _, argTypes := _ }); refine r_max ?_) | (apply at_op (.call { callee := .builtin .len, args := _, argTypes := _ }); refine r_len ?_) | (apply at_op (.slice _ _ _ _ _); refine r_slice ?_) | (apply at_op (.makeSlice _ _ _); refine r_mkb ?_))
    refine ret_one (by rfl) (by first | exact ToD.d _ | exact ToD.row _ _ _ _ _ rfl) ?_
    simp [putB, h0]
  · have hq : decide (t = (⟨#[]⟩ : ByteArray)) = false := decide_eq_false fun e => h0 (by rw [e]; rfl)
    have hm : max (s.size : Int) ((at_ : Int) + (t.size : Int)) = ((max s.size (at_ + t.size) : Nat) : Int) := by omega
    have hm1 : max s.size (at_ + t.size) ≤ 16777216 := by omega
    have hm2 : s.size ≤ max s.size (at_ + t.size) := by omega
    have hm3 : at_ + t.size ≤ max s.size (at_ + t.size) := by omega
    generalize hN : max s.size (at_ + t.size) = n at hm hm1 hm2 hm3
    have l1 := Lib.size_eq s
    have l2 := Lib.size_eq t
    have s1 : (splice (List.replicate n 0) 0 s.data.toList).length = n := by rw [splice_len] <;> simp <;> omega
    refine pure_enter Tryd.func46 rfl (by decide) _ Tryd.ntmps46 (le_ok rfl) (fun w Pr hE => ?_)
    dsimp only [slotsOf, Nat.zero_add, Nat.reduceAdd]
    repeat' (first | (apply at_op (.makeSlice _ _ _); refine al_step (st_mkb rfl rfl rfl rfl hm hm (by omega) (by omega) (bytes_zero n) (lt_ok rfl) rfl) rfl ?_) | (apply at_op (.call { callee := .builtin .copy, args := _, argTypes := _ }); refine al_step (st_copystr rfl rfl rfl rfl rfl (by omega) (by simp [bytesV, s1] <;> omega) (put_bytes _ _ _) (lt_ok rfl)) rfl ?_) | (apply at_op (.slice _ _ _ _ _); refine al_y (y_sub_sl rfl rfl (low_some rfl rfl) (by omega)) (lt_ok rfl) ?_) | apply aw_seq | apply aw_region | apply al_nil | apply aq_np | apply aq_then | apply aq_then_x | apply aq_then_r | apply aw_skip | apply aw_exit | apply aw_ret | (apply at_op (.move _); refine r_move ?_) | (apply at_op (.assign _); refine r_assign ?_) | (apply at_cond; first | refine c_t ?_ | refine c_f ?_ | (refine aw_cond rfl (fun hb => ?_) (fun hb => ?_) <;> ((first | have hq := of_decide_eq_true hb | have hq := of_decide_eq_false hb | have hq := dNT hb | have hq := dNF hb | skip); (try (exfalso; omega))))) | (apply at_op (.binOp .eql _ _ _ _); refine r_eql ?_) | (apply at_op (.binOp .add _ _ _ _); refine r_add ?_) | (apply at_op (.convert _ _ _); refine r_conv ?_) | (apply at_op (.call { callee := .builtin .max, args := _, argTypes := _ }); refine r_max ?_) | (apply at_op (.call { callee := .builtin .len, args := _, argTypes := _ }); refine r_len ?_) | (apply at_op (.slice _ _ _ _ _); refine r_slice ?_) | (apply at_op (.makeSlice _ _ _); refine r_mkb ?_))
    refine al_freeze 18 27 ((splice (splice (List.replicate n 0) 0 s.data.toList) (0 + at_) t.data.toList).map fun u => D.val (.int .u8 u.toNat)) (e := 5) (by rw [List.map_map]; exact find_eq _ _ _) rfl (by rw [List.length_map, splice_len] <;> omega) ?_
    apply at_op (.convert _ _ _)
    refine al_y (y_tostr (l := (splice (splice (List.replicate n 0) 0 s.data.toList) (0 + at_) t.data.toList).map fun u => (u.toNat : Int)) (ToD.d _) (by simp) rfl Tryd.underlying5 Tryd.underlying9 (Lib.Lz.strOfNums_map _)) (lt_ok rfl) ?_
    repeat' (first | apply aw_seq | apply aw_region | apply al_nil | apply aq_np | apply aq_then | apply aq_then_x | apply aq_then_r | apply aw_skip | apply aw_exit | apply aw_ret | (apply at_op (.move _); refine r_move ?_) | (apply at_op (.assign _); refine r_assign ?_) | (apply at_cond; first | refine c_t ?_ | refine c_f ?_ | (refine aw_cond rfl (fun hb => ?_) (fun hb => ?_) <;> ((first | have hq := of_decide_eq_true hb | have hq := of_decide_eq_false hb | have hq := dNT hb | have hq := dNF hb | skip); (try (exfalso; omega))))) | (apply at_op (.binOp .eql _ _ _ _); refine r_eql ?_) | (apply at_op (.binOp .add _ _ _ _); refine r_add ?_) | (apply at_op (.convert _ _ _); refine r_conv ?_) | (apply at_op (.call { callee := .builtin .max, args := _, argTypes := _ }); refine r_max ?_) | (apply at_op (.call { callee := .builtin .len, args := _, argTypes := _ }); refine r_len ?_) | (apply at_op (.slice _ _ _ _ _); refine r_slice ?_) | (apply at_op (.makeSlice _ _ _); refine r_mkb ?_))
    refine ret_one (by rfl) (by first | exact ToD.d _ | exact ToD.row _ _ _ _ _ rfl) ?_
    simp only [putB, if_neg h0, hN, Nat.zero_add]
end Go.Proofs.YtfgibalcdjlnhaaDoor
end
section
set_option linter.unusedSimpArgs false
set_option linter.unusedVariables false
namespace Go.Proofs.YtfgibalcdjlnhaaDoor
open Go.RowKit Go.ChangeMaps

def mayE (st : DS) (f : Int) : Int := if st.down then 8 else if f < 0 ∨ 16 ≤ f then 1 else 0
def endsB (st : DS) : Bool := !st.down && decide (st.armed = 1)
def endS (st : DS) : DS := if st.down = true ∨ st.armed = 0 then st else { st with armed := st.armed - 1 }
abbrev DS.new : DS := ⟨fun _ => nofile, [], 0, false, 0, []⟩
theorem DS.new_ok : DkOk [] [] DS.new := ⟨⟨by simp, fun _ _ => rfl⟩, ⟨by simp, by simp⟩, ⟨fun _ => Nat.zero_le _, fun _ => Nat.zero_le _, fun _ _ => rfl, List.nodup_nil, by simp, by simp, by simp, by simp, by simp⟩⟩
set_option maxHeartbeats 4000000 in
set_option maxRecDepth 20000 in
theorem new_any : ObC 9 [] [] [4, 1, 3, 2] (fun x o => x = .box 4 0 ∧ o = dsk 4 1 3 2 0 0 0 [] [] DS.new) := by
  refine ob_enter Tryd.func9 rfl (by decide) _ Tryd.ntmps9 (le_ok rfl) rfl (fun w Pr β κ hE => ?_)
  dsimp only [slotsV, Nat.zero_add, Nat.reduceAdd]
  repeat' (first | (apply at_op (.makeMap _ _); refine al_step (st_makemap (lt_ok rfl) rfl) rfl ?_) | (apply at_op (.build _ _); refine al_y (y_buildS rfl (by repeat (first | exact PartsS.nil | (apply PartsS.cons; rfl; constructor; rfl))) rfl rfl) (lt_ok rfl) ?_) | (apply at_op (.box _ _); refine al_step (st_box (ev_agg rfl) nofun (by first | (simp only [normV, normList, normMap]; rfl) | rfl) (lt_ok rfl) rfl rfl) rfl ?_) | apply aw_seq | apply aw_region | apply al_nil | apply aq_np | apply aq_then | apply aq_then_x | apply aq_then_r | apply aw_skip | apply aw_exit | apply aw_ret | (apply at_op (.assign _); refine r_assign ?_) | (apply at_op (.box _ _); refine r_boxed ?_) | (apply at_op (.build _ _); refine r_build ?_))
  refine aq_adoptb 4 1 3 78 2 rfl rfl rfl (lt_ok rfl) rfl rfl ?_
  refine aq_unrow 3 rfl ?_
  refine aq_nilcell 4 6 1 rfl rfl rfl ?_
  refine oret1 (dsk 4 1 3 2 0 0 0 [] [] DS.new) (by rfl) (by first | exact ResV.x _ _ (ResX.tmp _ _ (by first | exact ToD.d _ | exact ToD.row _ _ _ _ _ rfl | exact ToD.nil _)) | exact ResV.tmp _ _ rfl | exact ResV.x _ _ (ResX.cellA _ _ _ _ _ _ _ rfl rfl rfl (by first | (simp only [normV, normList, normMap]; rfl) | rfl) rfl)) (⟨rfl, rfl⟩) (by (repeat (first | exact obs_nil | (apply obs_cons; focus (first | rfl | (simp [find]; done)))))) (by first | rfl | (simp [okOut, V.within, V.withinL, O.within, keys, mem, look, nbeq_def, withinL_app, withinL_ds, withinL_und]; done))
section
variable {k cm cs : Nat} {lm ls : List ME} {st : DS}
set_option maxHeartbeats 4000000 in
set_option maxRecDepth 20000 in
theorem size_any (h : DkOk lm ls st) {f : Int} (hf : i64 f) : ObC 12 [.box 1000 0, .d (.int f)] (dsk 1000 1001 1002 1003 k cm cs lm ls st) [] (fun x o => x = .d (.int (st.F f).now.size) ∧ o = dsk 1000 1001 1002 1003 k cm cs lm ls st) := by
  have hkey := int_key hf
  obtain ⟨b, hhit⟩ := h.f.hit f
  refine ob_enter Tryd.func12 rfl (by decide) _ Tryd.ntmps12 (le_ok rfl) rfl (fun w Pr β κ hE => ?_)
  dsimp only [slotsV, Nat.zero_add, Nat.reduceAdd]
  repeat' (first | (apply at_op (.lookup _ _ _ _); refine al_y (y_lookup1 fileM rfl rfl rfl hkey hhit) (lt_ok rfl) ?_) | apply aw_seq | apply aw_region | apply al_nil | apply aq_np | apply aq_then | apply aq_then_x | apply aq_then_r | apply aw_skip | apply aw_exit | apply aw_ret | (apply at_op (.move _); refine r_move ?_) | (apply at_op (.assign _); refine r_assign ?_) | (apply at_op (.call { callee := .builtin .len, args := _, argTypes := _ }); refine r_len ?_) | (apply at_op (.load _ _); refine r_load ?_) | (apply at_op (.fieldAddr _ _ _); refine r_faddr ?_) | (apply at_op (.field _ _ _); refine r_field ?_) | (apply at_op (.nilCheck _); refine r_nilck ?_))
  refine oret1 (dsk 1000 1001 1002 1003 k cm cs lm ls st) (by rfl) (by first | exact ResV.x _ _ (ResX.tmp _ _ (by first | exact ToD.d _ | exact ToD.row _ _ _ _ _ rfl | exact ToD.nil _)) | exact ResV.tmp _ _ rfl | exact ResV.x _ _ (ResX.cellA _ _ _ _ _ _ _ rfl rfl rfl (by first | (simp only [normV, normList, normMap]; rfl) | rfl) rfl)) (⟨rfl, rfl⟩) (by (repeat (first | exact obs_nil | (apply obs_cons; focus (first | rfl | (simp [find]; done)))))) (by first | rfl | (simp [okOut, V.within, V.withinL, O.within, keys, mem, look, nbeq_def, withinL_app, withinL_ds, withinL_und]; done))
set_option maxHeartbeats 4000000 in
set_option maxRecDepth 20000 in
theorem start_any : ObC 30 [.box 1000 0] (dsk 1000 1001 1002 1003 k cm cs lm ls st) [] (fun x o => x = .tup [] ∧ o = dsk 1000 1001 1002 1003 k cm cs lm ls { st with down := false }) := by
  refine ob_enter Tryd.func30 rfl (by decide) _ Tryd.ntmps30 (le_ok rfl) rfl (fun w Pr β κ hE => ?_)
  dsimp only [slotsV, Nat.zero_add, Nat.reduceAdd]
  repeat' (first | apply aw_seq | apply aw_region | apply al_nil | apply aq_np | apply aq_then | apply aq_then_x | apply aq_then_r | apply aw_skip | apply aw_exit | apply aw_ret | (apply at_op (.move _); refine r_move ?_) | (apply at_op (.fieldAddr _ _ _); refine r_faddr ?_) | (apply at_op (.nilCheck _); refine r_nilck ?_) | (apply at_op (.store _ _ _); refine r_store ?_))
  try refine aq_end ?_
  refine oret0 (dsk 1000 1001 1002 1003 k cm cs lm ls { st with down := false }) (by rfl)  (⟨rfl, rfl⟩) (by (repeat (first | exact obs_nil | (apply obs_cons; focus (first | rfl | (simp [find]; done)))))) (by first | rfl | (simp [okOut, V.within, V.withinL, O.within, keys, mem, look, nbeq_def, withinL_app, withinL_ds, withinL_und]; done))
set_option maxHeartbeats 4000000 in
set_option maxRecDepth 20000 in
theorem lose_any (n : Int) : ObC 28 [.box 1000 0, .d (.int n)] (dsk 1000 1001 1002 1003 k cm cs lm ls st) [] (fun x o => x = .tup [] ∧ o = dsk 1000 1001 1002 1003 k cm cs lm ls { st with lost := max n 0 }) := by
  refine ob_enter Tryd.func28 rfl (by decide) _ Tryd.ntmps28 (le_ok rfl) rfl (fun w Pr β κ hE => ?_)
  dsimp only [slotsV, Nat.zero_add, Nat.reduceAdd]
  repeat' (first | apply aw_seq | apply aw_region | apply al_nil | apply aq_np | apply aq_then | apply aq_then_x | apply aq_then_r | apply aw_skip | apply aw_exit | apply aw_ret | (apply at_op (.move _); refine r_move ?_) | (apply at_op (.call { callee := .builtin .max, args := _, argTypes := _ }); refine r_max ?_) | (apply at_op (.fieldAddr _ _ _); refine r_faddr ?_) | (apply at_op (.nilCheck _); refine r_nilck ?_) | (apply at_op (.store _ _ _); refine r_store ?_))
  try refine aq_end ?_
  refine oret0 (dsk 1000 1001 1002 1003 k cm cs lm ls { st with lost := max n 0 }) (by rfl)  (⟨rfl, rfl⟩) (by (repeat (first | exact obs_nil | (apply obs_cons; focus (first | rfl | (simp [find]; done)))))) (by first | rfl | (simp [okOut, V.within, V.withinL, O.within, keys, mem, look, nbeq_def, withinL_app, withinL_ds, withinL_und]; done))
theorem one_ints (l : List Int) : ∀ q ∈ l.map (fun n => [D.int n]), ∀ z ∈ q, D.one z = true := by
  intro q hq z hz
  obtain ⟨x, _, rfl⟩ := List.mem_map.1 hq
  simp at hz
  subst hz
  rfl
set_option maxHeartbeats 8000000 in
set_option maxRecDepth 20000 in
theorem cloneInts (l : List Int) (hl : l.length ≤ 1000000) : PureC 47 [keepD l] (· = keepD l) := by
  refine pure_enter Tryd.func47 rfl (by decide) _ Tryd.ntmps47 (le_ok rfl) (fun w Pr hE => ?_)
  dsimp only [slotsOf, Nat.zero_add, Nat.reduceAdd]
  repeat' (first | (apply at_op (.binOp .eql _ _ _ _); refine al_slnil (by first | exact ToD.d _ | exact ToD.row _ _ _ _ _ rfl) Tryd.underlying23 (lt_ok rfl) (fun b hb0 => ?_)) | (apply at_op (.buildSlice _ _ _); refine al_step (st_litR0 rfl (lt_ok rfl) rfl) rfl ?_) | (apply at_op (.call { callee := .builtin .append, args := _, argTypes := _ }); refine al_step (st_append rfl rfl (by first | exact ToD.d _ | exact ToD.row _ _ _ _ _ rfl) rfl rfl (one_ints l) (by decide) (by first | (simp only [List.length_map, List.length_append, List.length_cons, List.length_nil]; omega) | omega) (by first | (simp only [List.length_map, List.length_append, List.length_cons, List.length_nil]; omega) | omega) (lt_ok rfl)) rfl ?_) | apply aw_seq | apply aw_region | apply al_nil | apply aq_np | apply aq_then | apply aq_then_x | apply aq_then_r | apply aw_skip | apply aw_exit | apply aw_ret | (apply at_op (.move _); refine r_move ?_) | (apply at_op (.assign _); refine r_assign ?_) | (apply at_cond; first | refine c_t ?_ | refine c_f ?_ | (refine aw_cond rfl (fun hb => ?_) (fun hb => ?_) <;> ((first | have hq := of_decide_eq_true hb | have hq := of_decide_eq_false hb | have hq := dNT hb | have hq := dNF hb | skip); (try (exfalso; omega))))) | (apply at_op (.binOp .eql _ _ _ _); refine r_eql ?_) | (apply at_op (.buildSlice _ _ _); refine r_lits ?_) | (apply at_op (.call { callee := .builtin .append, args := _, argTypes := _ }); refine r_appd ?_))
  · refine ret_one (by rfl) (ToD.nil 1) ?_
    have := hb0 (by assumption)
    have e : l = [] := by simpa using this
    rw [e]
    rfl
  · skip
    refine ret_one (by rfl) (by first | exact ToD.d _ | exact ToD.row _ _ _ _ _ rfl) ?_
    simp
set_option maxHeartbeats 4000000 in
set_option maxRecDepth 20000 in
theorem arm_any (n : Int) (l : List Int) (hl : l.length ≤ 1000000) : ObC 31 [.box 1000 0, .d (.int n), .d (keepD l)] (dsk 1000 1001 1002 1003 k cm cs lm ls st) [] (fun x o => x = .tup [] ∧ o = dsk 1000 1001 1002 1003 k cm cs lm ls { st with armed := max n 0, keep := l }) := by
  refine ob_enter Tryd.func31 rfl (by decide) _ Tryd.ntmps31 (le_ok rfl) rfl (fun w Pr β κ hE => ?_)
  dsimp only [slotsV, Nat.zero_add, Nat.reduceAdd]
  repeat' (first | (apply at_call; refine k_call (cloneInts l hl) hE ?_; rintro _ rfl) | apply aw_seq | apply aw_region | apply al_nil | apply aq_np | apply aq_then | apply aq_then_x | apply aq_then_r | apply aw_skip | apply aw_exit | apply aw_ret | (apply at_op (.move _); refine r_move ?_) | (apply at_op (.call { callee := .builtin .max, args := _, argTypes := _ }); refine r_max ?_) | (apply at_op (.fieldAddr _ _ _); refine r_faddr ?_) | (apply at_op (.nilCheck _); refine r_nilck ?_) | (apply at_op (.store _ _ _); refine r_store ?_))
  try refine aq_end ?_
  refine oret0 (dsk 1000 1001 1002 1003 k cm cs lm ls { st with armed := max n 0, keep := l }) (by rfl)  (⟨rfl, rfl⟩) (by (repeat (first | exact obs_nil | (apply obs_cons; focus (first | rfl | (simp [find]; done)))))) (by first | rfl | (simp [okOut, V.within, V.withinL, O.within, keys, mem, look, nbeq_def, withinL_app, withinL_ds, withinL_und]; done))
set_option maxHeartbeats 4000000 in
set_option maxRecDepth 20000 in
theorem may_any (f : Int) : ObC 38 [.box 1000 0, .d (.int f)] (dsk 1000 1001 1002 1003 k cm cs lm ls st) [] (fun x o => x = .d (.int (mayE st f)) ∧ o = dsk 1000 1001 1002 1003 k cm cs lm ls st) := by
  cases hdn : st.down
  · by_cases h1 : f < 0
    · skip
      refine ob_enter Tryd.func38 rfl (by decide) _ Tryd.ntmps38 (le_ok rfl) rfl (fun w Pr β κ hE => ?_)
      dsimp only [slotsV, Nat.zero_add, Nat.reduceAdd]
      repeat' (first | apply aw_seq | apply aw_region | apply al_nil | apply aq_np | apply aq_then | apply aq_then_x | apply aq_then_r | apply aq_block_x | (apply aq_block_y; decide) | apply aq_block_r | apply aq_block | apply aw_block | apply aw_skip | apply aw_exit | apply aw_ret | (apply at_op (.move _); refine r_move ?_) | (apply at_op (.assign _); refine r_assign ?_) | (apply at_cond; first | refine c_t ?_ | refine c_f ?_ | (refine aw_cond rfl (fun hb => ?_) (fun hb => ?_) <;> ((first | have hq := of_decide_eq_true hb | have hq := of_decide_eq_false hb | have hq := dNT hb | have hq := dNF hb | skip); (try (exfalso; omega))))) | (apply at_guard; first | refine g_go ?_ | refine g_nt ?_ | refine g_nf ?_ | refine g_nu ?_ | ((first | refine al_split_t rfl rfl (lt_ok rfl) (fun hb => ?_) (fun hb => ?_) | refine al_split_f rfl rfl (lt_ok rfl) (fun hb => ?_) (fun hb => ?_)) <;> ((first | have hq := of_decide_eq_true hb | have hq := of_decide_eq_false hb | have hq := dNT hb | have hq := dNF hb | skip); (try (exfalso; omega))))) | (apply at_op (.pick _ _ _); refine r_pick ?_) | (apply at_op (.binOp .lss _ _ _ _); refine r_lss ?_) | (apply at_op (.binOp .geq _ _ _ _); refine r_geq ?_) | (apply at_op (.load _ _); refine r_load ?_) | (apply at_op (.fieldAddr _ _ _); refine r_faddr ?_) | (apply at_op (.nilCheck _); refine r_nilck ?_))
      refine oret1 (dsk 1000 1001 1002 1003 k cm cs lm ls st) (by rfl) (by first | exact ResV.x _ _ (ResX.tmp _ _ (by first | exact ToD.d _ | exact ToD.row _ _ _ _ _ rfl | exact ToD.nil _)) | exact ResV.tmp _ _ rfl | exact ResV.x _ _ (ResX.cellA _ _ _ _ _ _ _ rfl rfl rfl (by first | (simp only [normV, normList, normMap]; rfl) | rfl) rfl)) (⟨by simp [mayE, hdn, h1], rfl⟩) (by (repeat (first | exact obs_nil | (apply obs_cons; focus (first | rfl | (simp [find]; done)))))) (by first | rfl | (simp [okOut, V.within, V.withinL, O.within, keys, mem, look, nbeq_def, withinL_app, withinL_ds, withinL_und]; done))
    · by_cases h2 : 16 ≤ f
      · skip
        refine ob_enter Tryd.func38 rfl (by decide) _ Tryd.ntmps38 (le_ok rfl) rfl (fun w Pr β κ hE => ?_)
        dsimp only [slotsV, Nat.zero_add, Nat.reduceAdd]
        repeat' (first | apply aw_seq | apply aw_region | apply al_nil | apply aq_np | apply aq_then | apply aq_then_x | apply aq_then_r | apply aq_block_x | (apply aq_block_y; decide) | apply aq_block_r | apply aq_block | apply aw_block | apply aw_skip | apply aw_exit | apply aw_ret | (apply at_op (.move _); refine r_move ?_) | (apply at_op (.assign _); refine r_assign ?_) | (apply at_cond; first | refine c_t ?_ | refine c_f ?_ | (refine aw_cond rfl (fun hb => ?_) (fun hb => ?_) <;> ((first | have hq := of_decide_eq_true hb | have hq := of_decide_eq_false hb | have hq := dNT hb | have hq := dNF hb | skip); (try (exfalso; omega))))) | (apply at_guard; first | refine g_go ?_ | refine g_nt ?_ | refine g_nf ?_ | refine g_nu ?_ | ((first | refine al_split_t rfl rfl (lt_ok rfl) (fun hb => ?_) (fun hb => ?_) | refine al_split_f rfl rfl (lt_ok rfl) (fun hb => ?_) (fun hb => ?_)) <;> ((first | have hq := of_decide_eq_true hb | have hq := of_decide_eq_false hb | have hq := dNT hb | have hq := dNF hb | skip); (try (exfalso; omega))))) | (apply at_op (.pick _ _ _); refine r_pick ?_) | (apply at_op (.binOp .lss _ _ _ _); refine r_lss ?_) | (apply at_op (.binOp .geq _ _ _ _); refine r_geq ?_) | (apply at_op (.load _ _); refine r_load ?_) | (apply at_op (.fieldAddr _ _ _); refine r_faddr ?_) | (apply at_op (.nilCheck _); refine r_nilck ?_))
        refine oret1 (dsk 1000 1001 1002 1003 k cm cs lm ls st) (by rfl) (by first | exact ResV.x _ _ (ResX.tmp _ _ (by first | exact ToD.d _ | exact ToD.row _ _ _ _ _ rfl | exact ToD.nil _)) | exact ResV.tmp _ _ rfl | exact ResV.x _ _ (ResX.cellA _ _ _ _ _ _ _ rfl rfl rfl (by first | (simp only [normV, normList, normMap]; rfl) | rfl) rfl)) (⟨by simp [mayE, hdn, h2], rfl⟩) (by (repeat (first | exact obs_nil | (apply obs_cons; focus (first | rfl | (simp [find]; done)))))) (by first | rfl | (simp [okOut, V.within, V.withinL, O.within, keys, mem, look, nbeq_def, withinL_app, withinL_ds, withinL_und]; done))
      · skip
        refine ob_enter Tryd.func38 rfl (by decide) _ Tryd.ntmps38 (le_ok rfl) rfl (fun w Pr β κ hE => ?_)
        dsimp only [slotsV, Nat.zero_add, Nat.reduceAdd]
        repeat' (first | apply aw_seq | apply aw_region | apply al_nil | apply aq_np | apply aq_then | apply aq_then_x | apply aq_then_r | apply aq_block_x | (apply aq_block_y; decide) | apply aq_block_r | apply aq_block | apply aw_block | apply aw_skip | apply aw_exit | apply aw_ret | (apply at_op (.move _); refine r_move ?_) | (apply at_op (.assign _); refine r_assign ?_) | (apply at_cond; first | refine c_t ?_ | refine c_f ?_ | (refine aw_cond rfl (fun hb => ?_) (fun hb => ?_) <;> ((first | have hq := of_decide_eq_true hb | have hq := of_decide_eq_false hb | have hq := dNT hb | have hq := dNF hb | skip); (try (exfalso; omega))))) | (apply at_guard; first | refine g_go ?_ | refine g_nt ?_ | refine g_nf ?_ | refine g_nu ?_ | ((first | refine al_split_t rfl rfl (lt_ok rfl) (fun hb => ?_) (fun hb => ?_) | refine al_split_f rfl rfl (lt_ok rfl) (fun hb => ?_) (fun hb => ?_)) <;> ((first | have hq := of_decide_eq_true hb | have hq := of_decide_eq_false hb | have hq := dNT hb | have hq := dNF hb | skip); (try (exfalso; omega))))) | (apply at_op (.pick _ _ _); refine r_pick ?_) | (apply at_op (.binOp .lss _ _ _ _); refine r_lss ?_) | (apply at_op (.binOp .geq _ _ _ _); refine r_geq ?_) | (apply at_op (.load _ _); refine r_load ?_) | (apply at_op (.fieldAddr _ _ _); refine r_faddr ?_) | (apply at_op (.nilCheck _); refine r_nilck ?_))
        refine oret1 (dsk 1000 1001 1002 1003 k cm cs lm ls st) (by rfl) (by first | exact ResV.x _ _ (ResX.tmp _ _ (by first | exact ToD.d _ | exact ToD.row _ _ _ _ _ rfl | exact ToD.nil _)) | exact ResV.tmp _ _ rfl | exact ResV.x _ _ (ResX.cellA _ _ _ _ _ _ _ rfl rfl rfl (by first | (simp only [normV, normList, normMap]; rfl) | rfl) rfl)) (⟨by simp [mayE, hdn, h1, h2], rfl⟩) (by (repeat (first | exact obs_nil | (apply obs_cons; focus (first | rfl | (simp [find]; done)))))) (by first | rfl | (simp [okOut, V.within, V.withinL, O.within, keys, mem, look, nbeq_def, withinL_app, withinL_ds, withinL_und]; done))
  · skip
    refine ob_enter Tryd.func38 rfl (by decide) _ Tryd.ntmps38 (le_ok rfl) rfl (fun w Pr β κ hE => ?_)
    dsimp only [slotsV, Nat.zero_add, Nat.reduceAdd]
    repeat' (first | apply aw_seq | apply aw_region | apply al_nil | apply aq_np | apply aq_then | apply aq_then_x | apply aq_then_r | apply aq_block_x | (apply aq_block_y; decide) | apply aq_block_r | apply aq_block | apply aw_block | apply aw_skip | apply aw_exit | apply aw_ret | (apply at_op (.move _); refine r_move ?_) | (apply at_op (.assign _); refine r_assign ?_) | (apply at_cond; first | refine c_t ?_ | refine c_f ?_ | (refine aw_cond rfl (fun hb => ?_) (fun hb => ?_) <;> ((first | have hq := of_decide_eq_true hb | have hq := of_decide_eq_false hb | have hq := dNT hb | have hq := dNF hb | skip); (try (exfalso; omega))))) | (apply at_guard; first | refine g_go ?_ | refine g_nt ?_ | refine g_nf ?_ | refine g_nu ?_ | ((first | refine al_split_t rfl rfl (lt_ok rfl) (fun hb => ?_) (fun hb => ?_) | refine al_split_f rfl rfl (lt_ok rfl) (fun hb => ?_) (fun hb => ?_)) <;> ((first | have hq := of_decide_eq_true hb | have hq := of_decide_eq_false hb | have hq := dNT hb | have hq := dNF hb | skip); (try (exfalso; omega))))) | (apply at_op (.pick _ _ _); refine r_pick ?_) | (apply at_op (.binOp .lss _ _ _ _); refine r_lss ?_) | (apply at_op (.binOp .geq _ _ _ _); refine r_geq ?_) | (apply at_op (.load _ _); refine r_load ?_) | (apply at_op (.fieldAddr _ _ _); refine r_faddr ?_) | (apply at_op (.nilCheck _); refine r_nilck ?_))
    refine oret1 (dsk 1000 1001 1002 1003 k cm cs lm ls st) (by rfl) (by first | exact ResV.x _ _ (ResX.tmp _ _ (by first | exact ToD.d _ | exact ToD.row _ _ _ _ _ rfl | exact ToD.nil _)) | exact ResV.tmp _ _ rfl | exact ResV.x _ _ (ResX.cellA _ _ _ _ _ _ _ rfl rfl rfl (by first | (simp only [normV, normList, normMap]; rfl) | rfl) rfl)) (⟨by simp [mayE, hdn], rfl⟩) (by (repeat (first | exact obs_nil | (apply obs_cons; focus (first | rfl | (simp [find]; done)))))) (by first | rfl | (simp [okOut, V.within, V.withinL, O.within, keys, mem, look, nbeq_def, withinL_app, withinL_ds, withinL_und]; done))
set_option maxHeartbeats 4000000 in
set_option maxRecDepth 20000 in
theorem ends_any (h : st.Ok) : ObC 39 [.box 1000 0] (dsk 1000 1001 1002 1003 k cm cs lm ls st) [] (fun x o => x = .d (.bool (endsB st)) ∧ o = dsk 1000 1001 1002 1003 k cm cs lm ls (endS st)) := by
  have ha := h.armed0
  cases hdn : st.down
  · by_cases h0 : st.armed = 0
    · have hq : decide (st.armed = 0) = true := decide_eq_true h0
      refine ob_enter Tryd.func39 rfl (by decide) _ Tryd.ntmps39 (le_ok rfl) rfl (fun w Pr β κ hE => ?_)
      dsimp only [slotsV, Nat.zero_add, Nat.reduceAdd]
      repeat' (first | apply aw_seq | apply aw_region | apply al_nil | apply aq_np | apply aq_then | apply aq_then_x | apply aq_then_r | apply aw_skip | apply aw_exit | apply aw_ret | (apply at_op (.move _); refine r_move ?_) | (apply at_op (.assign _); refine r_assign ?_) | (apply at_cond; first | refine c_t ?_ | refine c_f ?_ | (refine aw_cond rfl (fun hb => ?_) (fun hb => ?_) <;> ((first | have hq := of_decide_eq_true hb | have hq := of_decide_eq_false hb | have hq := dNT hb | have hq := dNF hb | skip); (try (exfalso; omega))))) | (apply at_guard; first | refine g_go ?_ | refine g_nt ?_ | refine g_nf ?_ | refine g_nu ?_ | ((first | refine al_split_t rfl rfl (lt_ok rfl) (fun hb => ?_) (fun hb => ?_) | refine al_split_f rfl rfl (lt_ok rfl) (fun hb => ?_) (fun hb => ?_)) <;> ((first | have hq := of_decide_eq_true hb | have hq := of_decide_eq_false hb | have hq := dNT hb | have hq := dNF hb | skip); (try (exfalso; omega))))) | (apply at_op (.pick _ _ _); refine r_pick ?_) | (apply at_op (.binOp .eql _ _ _ _); refine r_eql ?_) | (apply at_op (.binOp .sub _ _ _ _); refine r_sub ?_) | (apply at_op (.load _ _); refine r_load ?_) | (apply at_op (.fieldAddr _ _ _); refine r_faddr ?_) | (apply at_op (.nilCheck _); refine r_nilck ?_) | (apply at_op (.store _ _ _); refine r_store ?_))
      refine oret1 (dsk 1000 1001 1002 1003 k cm cs lm ls st) (by rfl) (by first | exact ResV.x _ _ (ResX.tmp _ _ (by first | exact ToD.d _ | exact ToD.row _ _ _ _ _ rfl | exact ToD.nil _)) | exact ResV.tmp _ _ rfl | exact ResV.x _ _ (ResX.cellA _ _ _ _ _ _ _ rfl rfl rfl (by first | (simp only [normV, normList, normMap]; rfl) | rfl) rfl)) (⟨by simp [endsB, h0], by simp [endS, h0]⟩) (by (repeat (first | exact obs_nil | (apply obs_cons; focus (first | rfl | (simp [find]; done)))))) (by first | rfl | (simp [okOut, V.within, V.withinL, O.within, keys, mem, look, nbeq_def, withinL_app, withinL_ds, withinL_und]; done))
    · have hq : decide (st.armed = 0) = false := decide_eq_false h0
      have hq2 : decide (st.armed - 1 = 0) = endsB st := by simp only [endsB, hdn, Bool.not_false, Bool.true_and]; exact decide_eq_decide.2 (by omega)
      refine ob_enter Tryd.func39 rfl (by decide) _ Tryd.ntmps39 (le_ok rfl) rfl (fun w Pr β κ hE => ?_)
      dsimp only [slotsV, Nat.zero_add, Nat.reduceAdd]
      repeat' (first | apply aw_seq | apply aw_region | apply al_nil | apply aq_np | apply aq_then | apply aq_then_x | apply aq_then_r | apply aw_skip | apply aw_exit | apply aw_ret | (apply at_op (.move _); refine r_move ?_) | (apply at_op (.assign _); refine r_assign ?_) | (apply at_cond; first | refine c_t ?_ | refine c_f ?_ | (refine aw_cond rfl (fun hb => ?_) (fun hb => ?_) <;> ((first | have hq := of_decide_eq_true hb | have hq := of_decide_eq_false hb | have hq := dNT hb | have hq := dNF hb | skip); (try (exfalso; omega))))) | (apply at_guard; first | refine g_go ?_ | refine g_nt ?_ | refine g_nf ?_ | refine g_nu ?_ | ((first | refine al_split_t rfl rfl (lt_ok rfl) (fun hb => ?_) (fun hb => ?_) | refine al_split_f rfl rfl (lt_ok rfl) (fun hb => ?_) (fun hb => ?_)) <;> ((first | have hq := of_decide_eq_true hb | have hq := of_decide_eq_false hb | have hq := dNT hb | have hq := dNF hb | skip); (try (exfalso; omega))))) | (apply at_op (.pick _ _ _); refine r_pick ?_) | (apply at_op (.binOp .eql _ _ _ _); refine r_eql ?_) | (apply at_op (.binOp .sub _ _ _ _); refine r_sub ?_) | (apply at_op (.load _ _); refine r_load ?_) | (apply at_op (.fieldAddr _ _ _); refine r_faddr ?_) | (apply at_op (.nilCheck _); refine r_nilck ?_) | (apply at_op (.store _ _ _); refine r_store ?_))
      refine oret1 (dsk 1000 1001 1002 1003 k cm cs lm ls { st with armed := st.armed - 1 }) (by rfl) (by first | exact ResV.x _ _ (ResX.tmp _ _ (by first | exact ToD.d _ | exact ToD.row _ _ _ _ _ rfl | exact ToD.nil _)) | exact ResV.tmp _ _ rfl | exact ResV.x _ _ (ResX.cellA _ _ _ _ _ _ _ rfl rfl rfl (by first | (simp only [normV, normList, normMap]; rfl) | rfl) rfl)) (⟨by rw [hq2], by simp [endS, h0, hdn]⟩) (by (repeat (first | exact obs_nil | (apply obs_cons; focus (first | rfl | (simp [find]; done)))))) (by first | rfl | (simp [okOut, V.within, V.withinL, O.within, keys, mem, look, nbeq_def, withinL_app, withinL_ds, withinL_und]; done))
  · skip
    refine ob_enter Tryd.func39 rfl (by decide) _ Tryd.ntmps39 (le_ok rfl) rfl (fun w Pr β κ hE => ?_)
    dsimp only [slotsV, Nat.zero_add, Nat.reduceAdd]
    repeat' (first | apply aw_seq | apply aw_region | apply al_nil | apply aq_np | apply aq_then | apply aq_then_x | apply aq_then_r | apply aw_skip | apply aw_exit | apply aw_ret | (apply at_op (.move _); refine r_move ?_) | (apply at_op (.assign _); refine r_assign ?_) | (apply at_cond; first | refine c_t ?_ | refine c_f ?_ | (refine aw_cond rfl (fun hb => ?_) (fun hb => ?_) <;> ((first | have hq := of_decide_eq_true hb | have hq := of_decide_eq_false hb | have hq := dNT hb | have hq := dNF hb | skip); (try (exfalso; omega))))) | (apply at_guard; first | refine g_go ?_ | refine g_nt ?_ | refine g_nf ?_ | refine g_nu ?_ | ((first | refine al_split_t rfl rfl (lt_ok rfl) (fun hb => ?_) (fun hb => ?_) | refine al_split_f rfl rfl (lt_ok rfl) (fun hb => ?_) (fun hb => ?_)) <;> ((first | have hq := of_decide_eq_true hb | have hq := of_decide_eq_false hb | have hq := dNT hb | have hq := dNF hb | skip); (try (exfalso; omega))))) | (apply at_op (.pick _ _ _); refine r_pick ?_) | (apply at_op (.binOp .eql _ _ _ _); refine r_eql ?_) | (apply at_op (.binOp .sub _ _ _ _); refine r_sub ?_) | (apply at_op (.load _ _); refine r_load ?_) | (apply at_op (.fieldAddr _ _ _); refine r_faddr ?_) | (apply at_op (.nilCheck _); refine r_nilck ?_) | (apply at_op (.store _ _ _); refine r_store ?_))
    refine oret1 (dsk 1000 1001 1002 1003 k cm cs lm ls st) (by rfl) (by first | exact ResV.x _ _ (ResX.tmp _ _ (by first | exact ToD.d _ | exact ToD.row _ _ _ _ _ rfl | exact ToD.nil _)) | exact ResV.tmp _ _ rfl | exact ResV.x _ _ (ResX.cellA _ _ _ _ _ _ _ rfl rfl rfl (by first | (simp only [normV, normList, normMap]; rfl) | rfl) rfl)) (⟨by simp [endsB, hdn], by simp [endS, hdn]⟩) (by (repeat (first | exact obs_nil | (apply obs_cons; focus (first | rfl | (simp [find]; done)))))) (by first | rfl | (simp [okOut, V.within, V.withinL, O.within, keys, mem, look, nbeq_def, withinL_app, withinL_ds, withinL_und]; done))
/-- the part of a string that a read returns -/
def cutB (s : ByteArray) (at_ size : Int) : ByteArray := s.extract (min at_ s.size).toNat (min (at_ + size) s.size).toNat
def readV (st : DS) (f at_ size : Int) : List D := if mayE st f ≠ 0 then [.str ⟨#[]⟩, .int (mayE st f)] else if at_ < 0 ∨ size < 0 then [.str ⟨#[]⟩, .int 1] else [.str (cutB (st.F f).now at_ size), .int 0]
theorem cut_eq (s : ByteArray) {at_ size : Int} (h1 : ¬ at_ < 0) (h2 : ¬ size < 0) : (s.extract (min at_ ↑s.size).toNat s.size).extract 0 (min size ↑(s.size - (min at_ ↑s.size).toNat)).toNat = cutB s at_ size := by
  rw [ByteArray.extract_extract, cutB]
  congr 1
  omega
set_option maxHeartbeats 4000000 in
set_option maxRecDepth 20000 in
theorem read_any (h : DkOk lm ls st) {f at_ size : Int} (hf : i64 f) : ObC 13 [.box 1000 0, .d (.int f), .d (.int at_), .d (.int size)] (dsk 1000 1001 1002 1003 k cm cs lm ls st) [] (fun x o => x = .tup ((readV st f at_ size).map V.d) ∧ o = dsk 1000 1001 1002 1003 k cm cs lm ls st) := by
  have hkey := int_key hf
  obtain ⟨b, hhit⟩ := h.f.hit f
  have hm := may_any (k := k) (cm := cm) (cs := cs) (lm := lm) (ls := ls) (st := st) f
  by_cases h0 : mayE st f = 0
  · rw [h0] at hm
    by_cases h1 : at_ < 0
    · skip
      refine ob_enter Tryd.func13 rfl (by decide) _ Tryd.ntmps13 (le_ok rfl) rfl (fun w Pr β κ hE => ?_)
      dsimp only [slotsV, Nat.zero_add, Nat.reduceAdd]
      repeat' (first | (apply at_call; refine k_ocall [(1000, 1000), (1001, 1001), (1002, 1002), (1003, 1003)] (hm) hE ?_; rintro _ _ ⟨rfl, rfl⟩ <;> (intro _ _ h1 h2; simp only [renEqs, Nat.reduceBEq] at h1 h2; subst h1 h2)) | apply aw_seq | apply aw_region | apply al_nil | apply aq_np | apply aq_then | apply aq_then_x | apply aq_then_r | apply aw_skip | apply aw_exit | apply aw_ret | (apply at_op (.move _); refine r_move ?_) | (apply at_op (.assign _); refine r_assign ?_) | (apply at_cond; first | refine c_t ?_ | refine c_f ?_ | (refine aw_cond rfl (fun hb => ?_) (fun hb => ?_) <;> ((first | have hq := of_decide_eq_true hb | have hq := of_decide_eq_false hb | have hq := dNT hb | have hq := dNF hb | skip); (try (exfalso; omega))))) | (apply at_guard; first | refine g_go ?_ | refine g_nt ?_ | refine g_nf ?_ | refine g_nu ?_ | ((first | refine al_split_t rfl rfl (lt_ok rfl) (fun hb => ?_) (fun hb => ?_) | refine al_split_f rfl rfl (lt_ok rfl) (fun hb => ?_) (fun hb => ?_)) <;> ((first | have hq := of_decide_eq_true hb | have hq := of_decide_eq_false hb | have hq := dNT hb | have hq := dNF hb | skip); (try (exfalso; omega))))) | (apply at_op (.pick _ _ _); refine r_pick ?_) | (apply at_op (.binOp .lss _ _ _ _); refine r_lss ?_) | (apply at_op (.binOp .neq _ _ _ _); refine r_neq ?_) | (apply at_op (.call { callee := .builtin .min, args := _, argTypes := _ }); refine r_min ?_) | (apply at_op (.call { callee := .builtin .len, args := _, argTypes := _ }); refine r_len ?_) | (apply at_op (.slice _ _ _ _ _); refine r_slice ?_) | (apply at_op (.load _ _); refine r_load ?_) | (apply at_op (.fieldAddr _ _ _); refine r_faddr ?_) | (apply at_op (.field _ _ _); refine r_field ?_) | (apply at_op (.nilCheck _); refine r_nilck ?_))
      refine oret2 (dsk 1000 1001 1002 1003 k cm cs lm ls st) (by rfl) (by first | exact ResV.x _ _ (ResX.tmp _ _ (by first | exact ToD.d _ | exact ToD.row _ _ _ _ _ rfl | exact ToD.nil _)) | exact ResV.tmp _ _ rfl | exact ResV.x _ _ (ResX.cellA _ _ _ _ _ _ _ rfl rfl rfl (by first | (simp only [normV, normList, normMap]; rfl) | rfl) rfl)) (by first | exact ResV.x _ _ (ResX.tmp _ _ (by first | exact ToD.d _ | exact ToD.row _ _ _ _ _ rfl | exact ToD.nil _)) | exact ResV.tmp _ _ rfl | exact ResV.x _ _ (ResX.cellA _ _ _ _ _ _ _ rfl rfl rfl (by first | (simp only [normV, normList, normMap]; rfl) | rfl) rfl)) (⟨by simp [readV, h0, h1], rfl⟩) (by (repeat (first | exact obs_nil | (apply obs_cons; focus (first | rfl | (simp [find]; done)))))) (by first | rfl | (simp [okOut, V.within, V.withinL, O.within, keys, mem, look, nbeq_def, withinL_app, withinL_ds, withinL_und]; done))
    · by_cases h2 : size < 0
      · skip
        refine ob_enter Tryd.func13 rfl (by decide) _ Tryd.ntmps13 (le_ok rfl) rfl (fun w Pr β κ hE => ?_)
        dsimp only [slotsV, Nat.zero_add, Nat.reduceAdd]
        repeat' (first | (apply at_call; refine k_ocall [(1000, 1000), (1001, 1001), (1002, 1002), (1003, 1003)] (hm) hE ?_; rintro _ _ ⟨rfl, rfl⟩ <;> (intro _ _ h1 h2; simp only [renEqs, Nat.reduceBEq] at h1 h2; subst h1 h2)) | apply aw_seq | apply aw_region | apply al_nil | apply aq_np | apply aq_then | apply aq_then_x | apply aq_then_r | apply aw_skip | apply aw_exit | apply aw_ret | (apply at_op (.move _); refine r_move ?_) | (apply at_op (.assign _); refine r_assign ?_) | (apply at_cond; first | refine c_t ?_ | refine c_f ?_ | (refine aw_cond rfl (fun hb => ?_) (fun hb => ?_) <;> ((first | have hq := of_decide_eq_true hb | have hq := of_decide_eq_false hb | have hq := dNT hb | have hq := dNF hb | skip); (try (exfalso; omega))))) | (apply at_guard; first | refine g_go ?_ | refine g_nt ?_ | refine g_nf ?_ | refine g_nu ?_ | ((first | refine al_split_t rfl rfl (lt_ok rfl) (fun hb => ?_) (fun hb => ?_) | refine al_split_f rfl rfl (lt_ok rfl) (fun hb => ?_) (fun hb => ?_)) <;> ((first | have hq := of_decide_eq_true hb | have hq := of_decide_eq_false hb | have hq := dNT hb | have hq := dNF hb | skip); (try (exfalso; omega))))) | (apply at_op (.pick _ _ _); refine r_pick ?_) | (apply at_op (.binOp .lss _ _ _ _); refine r_lss ?_) | (apply at_op (.binOp .neq _ _ _ _); refine r_neq ?_) | (apply at_op (.call { callee := .builtin .min, args := _, argTypes := _ }); refine r_min ?_) | (apply at_op (.call { callee := .builtin .len, args := _, argTypes := _ }); refine r_len ?_) | (apply at_op (.slice _ _ _ _ _); refine r_slice ?_) | (apply at_op (.load _ _); refine r_load ?_) | (apply at_op (.fieldAddr _ _ _); refine r_faddr ?_) | (apply at_op (.field _ _ _); refine r_field ?_) | (apply at_op (.nilCheck _); refine r_nilck ?_))
        refine oret2 (dsk 1000 1001 1002 1003 k cm cs lm ls st) (by rfl) (by first | exact ResV.x _ _ (ResX.tmp _ _ (by first | exact ToD.d _ | exact ToD.row _ _ _ _ _ rfl | exact ToD.nil _)) | exact ResV.tmp _ _ rfl | exact ResV.x _ _ (ResX.cellA _ _ _ _ _ _ _ rfl rfl rfl (by first | (simp only [normV, normList, normMap]; rfl) | rfl) rfl)) (by first | exact ResV.x _ _ (ResX.tmp _ _ (by first | exact ToD.d _ | exact ToD.row _ _ _ _ _ rfl | exact ToD.nil _)) | exact ResV.tmp _ _ rfl | exact ResV.x _ _ (ResX.cellA _ _ _ _ _ _ _ rfl rfl rfl (by first | (simp only [normV, normList, normMap]; rfl) | rfl) rfl)) (⟨by simp [readV, h0, h1, h2], rfl⟩) (by (repeat (first | exact obs_nil | (apply obs_cons; focus (first | rfl | (simp [find]; done)))))) (by first | rfl | (simp [okOut, V.within, V.withinL, O.within, keys, mem, look, nbeq_def, withinL_app, withinL_ds, withinL_und]; done))
      · generalize hs : (st.F f).now = s at hhit
        refine ob_enter Tryd.func13 rfl (by decide) _ Tryd.ntmps13 (le_ok rfl) rfl (fun w Pr β κ hE => ?_)
        dsimp only [slotsV, Nat.zero_add, Nat.reduceAdd]
        repeat' (first | (apply at_call; refine k_ocall [(1000, 1000), (1001, 1001), (1002, 1002), (1003, 1003)] (hm) hE ?_; rintro _ _ ⟨rfl, rfl⟩ <;> (intro _ _ h1 h2; simp only [renEqs, Nat.reduceBEq] at h1 h2; subst h1 h2)) | (apply at_op (.lookup _ _ _ _); refine al_y (y_lookup1 fileM rfl rfl rfl hkey hhit) (lt_ok rfl) ?_) | apply aw_seq | apply aw_region | apply al_nil | apply aq_np | apply aq_then | apply aq_then_x | apply aq_then_r | apply aw_skip | apply aw_exit | apply aw_ret | (apply at_op (.move _); refine r_move ?_) | (apply at_op (.assign _); refine r_assign ?_) | (apply at_cond; first | refine c_t ?_ | refine c_f ?_ | (refine aw_cond rfl (fun hb => ?_) (fun hb => ?_) <;> ((first | have hq := of_decide_eq_true hb | have hq := of_decide_eq_false hb | have hq := dNT hb | have hq := dNF hb | skip); (try (exfalso; omega))))) | (apply at_guard; first | refine g_go ?_ | refine g_nt ?_ | refine g_nf ?_ | refine g_nu ?_ | ((first | refine al_split_t rfl rfl (lt_ok rfl) (fun hb => ?_) (fun hb => ?_) | refine al_split_f rfl rfl (lt_ok rfl) (fun hb => ?_) (fun hb => ?_)) <;> ((first | have hq := of_decide_eq_true hb | have hq := of_decide_eq_false hb | have hq := dNT hb | have hq := dNF hb | skip); (try (exfalso; omega))))) | (apply at_op (.pick _ _ _); refine r_pick ?_) | (apply at_op (.binOp .lss _ _ _ _); refine r_lss ?_) | (apply at_op (.binOp .neq _ _ _ _); refine r_neq ?_) | (apply at_op (.call { callee := .builtin .min, args := _, argTypes := _ }); refine r_min ?_) | (apply at_op (.call { callee := .builtin .len, args := _, argTypes := _ }); refine r_len ?_) | (apply at_op (.slice _ _ _ _ _); refine r_slice ?_) | (apply at_op (.load _ _); refine r_load ?_) | (apply at_op (.fieldAddr _ _ _); refine r_faddr ?_) | (apply at_op (.field _ _ _); refine r_field ?_) | (apply at_op (.nilCheck _); refine r_nilck ?_))
        refine oret2 (dsk 1000 1001 1002 1003 k cm cs lm ls st) (by rfl) (by first | exact ResV.x _ _ (ResX.tmp _ _ (by first | exact ToD.d _ | exact ToD.row _ _ _ _ _ rfl | exact ToD.nil _)) | exact ResV.tmp _ _ rfl | exact ResV.x _ _ (ResX.cellA _ _ _ _ _ _ _ rfl rfl rfl (by first | (simp only [normV, normList, normMap]; rfl) | rfl) rfl)) (by first | exact ResV.x _ _ (ResX.tmp _ _ (by first | exact ToD.d _ | exact ToD.row _ _ _ _ _ rfl | exact ToD.nil _)) | exact ResV.tmp _ _ rfl | exact ResV.x _ _ (ResX.cellA _ _ _ _ _ _ _ rfl rfl rfl (by first | (simp only [normV, normList, normMap]; rfl) | rfl) rfl)) (⟨by simp [readV, h0, h1, h2, hs, cut_eq s h1 h2], rfl⟩) (by (repeat (first | exact obs_nil | (apply obs_cons; focus (first | rfl | (simp [find]; done)))))) (by first | rfl | (simp [okOut, V.within, V.withinL, O.within, keys, mem, look, nbeq_def, withinL_app, withinL_ds, withinL_und]; done))
  · have hq : decide (mayE st f = 0) = false := decide_eq_false h0
    have hq2 : (!decide (mayE st f = 0)) = true := by rw [hq]; rfl
    refine ob_enter Tryd.func13 rfl (by decide) _ Tryd.ntmps13 (le_ok rfl) rfl (fun w Pr β κ hE => ?_)
    dsimp only [slotsV, Nat.zero_add, Nat.reduceAdd]
    repeat' (first | (apply at_call; refine k_ocall [(1000, 1000), (1001, 1001), (1002, 1002), (1003, 1003)] (hm) hE ?_; rintro _ _ ⟨rfl, rfl⟩ <;> (intro _ _ h1 h2; simp only [renEqs, Nat.reduceBEq] at h1 h2; subst h1 h2)) | apply aw_seq | apply aw_region | apply al_nil | apply aq_np | apply aq_then | apply aq_then_x | apply aq_then_r | apply aw_skip | apply aw_exit | apply aw_ret | (apply at_op (.move _); refine r_move ?_) | (apply at_op (.assign _); refine r_assign ?_) | (apply at_cond; first | refine c_t ?_ | refine c_f ?_ | (refine aw_cond rfl (fun hb => ?_) (fun hb => ?_) <;> ((first | have hq := of_decide_eq_true hb | have hq := of_decide_eq_false hb | have hq := dNT hb | have hq := dNF hb | skip); (try (exfalso; omega))))) | (apply at_guard; first | refine g_go ?_ | refine g_nt ?_ | refine g_nf ?_ | refine g_nu ?_ | ((first | refine al_split_t rfl rfl (lt_ok rfl) (fun hb => ?_) (fun hb => ?_) | refine al_split_f rfl rfl (lt_ok rfl) (fun hb => ?_) (fun hb => ?_)) <;> ((first | have hq := of_decide_eq_true hb | have hq := of_decide_eq_false hb | have hq := dNT hb | have hq := dNF hb | skip); (try (exfalso; omega))))) | (apply at_op (.pick _ _ _); refine r_pick ?_) | (apply at_op (.binOp .lss _ _ _ _); refine r_lss ?_) | (apply at_op (.binOp .neq _ _ _ _); refine r_neq ?_) | (apply at_op (.call { callee := .builtin .min, args := _, argTypes := _ }); refine r_min ?_) | (apply at_op (.call { callee := .builtin .len, args := _, argTypes := _ }); refine r_len ?_) | (apply at_op (.slice _ _ _ _ _); refine r_slice ?_) | (apply at_op (.load _ _); refine r_load ?_) | (apply at_op (.fieldAddr _ _ _); refine r_faddr ?_) | (apply at_op (.field _ _ _); refine r_field ?_) | (apply at_op (.nilCheck _); refine r_nilck ?_))
    refine oret2 (dsk 1000 1001 1002 1003 k cm cs lm ls st) (by rfl) (by first | exact ResV.x _ _ (ResX.tmp _ _ (by first | exact ToD.d _ | exact ToD.row _ _ _ _ _ rfl | exact ToD.nil _)) | exact ResV.tmp _ _ rfl | exact ResV.x _ _ (ResX.cellA _ _ _ _ _ _ _ rfl rfl rfl (by first | (simp only [normV, normList, normMap]; rfl) | rfl) rfl)) (by first | exact ResV.x _ _ (ResX.tmp _ _ (by first | exact ToD.d _ | exact ToD.row _ _ _ _ _ rfl | exact ToD.nil _)) | exact ResV.tmp _ _ rfl | exact ResV.x _ _ (ResX.cellA _ _ _ _ _ _ _ rfl rfl rfl (by first | (simp only [normV, normList, normMap]; rfl) | rfl) rfl)) (⟨by simp [readV, h0], rfl⟩) (by (repeat (first | exact obs_nil | (apply obs_cons; focus (first | rfl | (simp [find]; done)))))) (by first | rfl | (simp [okOut, V.within, V.withinL, O.within, keys, mem, look, nbeq_def, withinL_app, withinL_ds, withinL_und]; done))
end
end Go.Proofs.YtfgibalcdjlnhaaDoor
end
