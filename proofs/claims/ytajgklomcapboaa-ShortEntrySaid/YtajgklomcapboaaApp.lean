import Derived.Test.YtajgklomcapboaaConv
import Derived.Deep.AppendSrc
import Derived.Deep.Upon
import Derived.Laws.IdiomStrings
/- A slice of the call's own to which is appended; strings and bytes turned into one another. -/
namespace Sc
open Go Go.RowKit

theorem gb_setCells (b : Nat) : ∀ (vs : List Value) (o : Nat) (w : World), w.grownBy (w.setCells b o vs) (some b)
  | [], _, w => gb_refl w _
  | v :: vs, o, w => gb_trans (gb_set1 w ⟨b, o, none⟩ v) (gb_setCells b vs (o + 1) _)

/-- The slice v has n elements of k cells, which are cs; its whole row, up to its capacity, lies in one block from B on, and may be written. -/
def Ow (B : Nat) (w : World) (k : Nat) (v : Value) (n : Nat) (cs : List Value) : Prop :=
  cs.length = n * k ∧ ∃ A c, v = .slice A n c ∧ n ≤ c ∧ c ≤ maxLen ∧ (A = none → c = 0) ∧ ∀ ad, A = some ad → ∃ b o, ad = ⟨b, o, none⟩ ∧ B ≤ b ∧ b < w.heap.size ∧
    (∀ j, j < c * k → (w.cell? ⟨b, o + j, none⟩).isSome = true ∧ w.frozen? ⟨b, o + j, none⟩ = false) ∧ w.rangeAt b o cs

def InfoOk (P : Program) (e : TypeId) (k by_ : Nat) : Prop := ((P.info? e).map fun i => (i.zero.map (·.cells.size), i.size, i.bytes)) = some (some k, k, by_)

section
variable {B k n : Nat} {w w' : World} {v : Value} {cs : List Value}

theorem Ow.len (h : Ow B w k v n cs) : cs.length = n * k := h.1
theorem Ow.nil (B : Nat) (w : World) (k : Nat) : Ow B w k (.slice none 0 0) 0 [] := ⟨by simp, none, 0, rfl, Nat.le_refl _, Nat.zero_le _, (fun _ => rfl), (fun _ h => by cases h)⟩
theorem Ow.new (w : World) (e : TypeId) (B k n : Nat) (cs : List Value) (hl : cs.length = n * k) (hn : n ≤ maxLen) (hB : B ≤ w.heap.size) : Ow B (w.alloc (.cells cs.toArray e)) k (.slice (some ⟨w.heap.size, 0, none⟩) n n) n cs := by
  have hb := Bk.new w e cs
  refine ⟨hl, some ⟨w.heap.size, 0, none⟩, n, rfl, Nat.le_refl _, hn, (fun h => by cases h), fun ad had => ?_⟩
  cases had
  refine ⟨w.heap.size, 0, rfl, hB, by rw [World.size_alloc]; omega, fun j hj => ⟨?_, hb.frozen _⟩, hb.range⟩
  rw [Nat.zero_add, hb.cellAt (List.getElem?_eq_getElem (by omega))]; rfl
theorem Ow.grown {row : Option Nat} (h : Ow B w k v n cs) (hg : w.grownBy w' row) (hr : ∀ b, v.ownBlock = some b → row ≠ some b) : Ow B w' k v n cs := by
  obtain ⟨h1, A, c, rfl, h2, h3, h4, h5⟩ := h
  refine ⟨h1, A, c, rfl, h2, h3, h4, fun ad had => ?_⟩
  obtain ⟨b, o, rfl, hB, hb, hc, hr'⟩ := h5 ad had
  subst had
  have hne : row ≠ some b := hr b rfl
  have hblk : w'.heap[b]? = w.heap[b]? := hg.block b hb (fun e => hne e.symm)
  refine ⟨b, o, rfl, hB, Nat.lt_of_lt_of_le hb hg.size, fun j hj => ?_, fun j u hu => ?_⟩
  · rw [World.cell?_of_block (a := ⟨b, o + j, none⟩) hblk, World.frozen?_of_block (a := ⟨b, o + j, none⟩) hblk]; exact hc j hj
  · rw [World.cell?_of_block (a := ⟨b, o + j, none⟩) hblk]; exact hr' j u hu
theorem Ow.alloc (h : Ow B w k v n cs) (o : Obj) : Ow B (w.alloc o) k v n cs := h.grown (World.grownBy_alloc w o none) (by simp)
theorem Ow.drew (h : Ow B w k v n cs) : Ow B w.drew k v n cs := h
theorem Ow.drewN (h : Ow B w k v n cs) (m : Nat) : Ow B (w.drewN m) k v n cs := h
theorem Ow.lt (h : Ow B w k v n cs) {b : Nat} (hb : v.ownBlock = some b) : B ≤ b ∧ b < w.heap.size := by
  obtain ⟨h1, A, c, rfl, h2, h3, h4, h5⟩ := h
  cases A with
  | none => cases hb
  | some ad =>
    obtain ⟨b', o, rfl, hB, hlt, _⟩ := h5 ad rfl
    cases hb; exact ⟨hB, hlt⟩
theorem Ow.le (h : Ow B w k v n cs) : n ≤ maxLen := by obtain ⟨h1, A, c, _, h2, h3, _⟩ := h; omega
theorem Ow.rd (h : Ow B w k v n cs) {NB : Nat → Prop} (hN : ∀ b, v.ownBlock = some b → NB b) : Rd NB w k v n cs := by
  obtain ⟨h1, A, c, rfl, h2, h3, h4, h5⟩ := h
  refine ⟨A, c, rfl, h2, h3, h1, fun hn => ?_⟩
  cases A with
  | none => have := h4 rfl; omega
  | some ad =>
    obtain ⟨b, o, rfl, hB, hlt, _, hr⟩ := h5 ad rfl
    exact ⟨b, o, rfl, hN b rfl, hr⟩
theorem Ow.form (h : Ow B w k v n cs) : ∃ A c, v = .slice A n c := by obtain ⟨h1, A, c, rfl, _⟩ := h; exact ⟨A, c, rfl⟩
/-- Element i, written. -/
theorem Ow.at (h : Ow B w k v n cs) (hn : 0 < n * k) : ∃ b o c, v = .slice (some ⟨b, o, none⟩) n c ∧ B ≤ b ∧ b < w.heap.size ∧ n ≤ c ∧ w.rangeAt b o cs ∧ (∀ j, j < n * k → w.frozen? ⟨b, o + j, none⟩ = false) := by
  obtain ⟨h1, A, c, rfl, h2, h3, h4, h5⟩ := h
  cases A with
  | none => have := h4 rfl; have : n = 0 := by omega
            subst this; simp at hn
  | some ad =>
    obtain ⟨b, o, rfl, hB, hlt, hc, hr⟩ := h5 ad rfl
    exact ⟨b, o, c, rfl, hB, hlt, h2, hr, fun j hj => (hc j (Nat.lt_of_lt_of_le hj (Nat.mul_le_mul_right k h2))).2⟩
theorem Ow.set {b o c : Nat} (h : Ow B w k (.slice (some ⟨b, o, none⟩) n c) n cs) (j : Nat) (u : Value) (hj : j < n * k) : Ow B (w.setCell ⟨b, o + j, none⟩ u) k (.slice (some ⟨b, o, none⟩) n c) n (cs.set j u) := by
  obtain ⟨h1, A, c', e, h2, h3, h4, h5⟩ := h
  cases e
  obtain ⟨b', o', e, hB, hlt, hc, hr⟩ := h5 _ rfl
  cases e
  have hs : ∀ i, (w.cell? ⟨b, o + i, none⟩).isSome = true → (w.setCell ⟨b, o + j, none⟩ u).cell? ⟨b, o + i, none⟩ = if i = j then some u else w.cell? ⟨b, o + i, none⟩ := fun i hi => by
    by_cases e : i = j
    · subst e; rw [if_pos rfl]
      obtain ⟨y, hy⟩ := Option.isSome_iff_exists.1 hi
      exact World.cell?_setCell_same _ _ _ hy
    · rw [if_neg e]; exact World.cell?_setCell_other _ _ _ _ (fun h => e (by have := congrArg Addr.off h; simp at this; omega))
  have hjc : j < c * k := Nat.lt_of_lt_of_le hj (Nat.mul_le_mul_right k h2)
  refine ⟨by rw [List.length_set, h1], _, c, rfl, h2, h3, (fun h => by cases h), fun ad had => ?_⟩
  cases had
  refine ⟨b, o, rfl, hB, by simpa using hlt, fun i hi => ⟨?_, ?_⟩, fun i x hx => ?_⟩
  · rw [hs i (hc i hi).1]; split
    · rfl
    · exact (hc i hi).1
  · have := World.frozen?_setCells b [u] (o + j) w ⟨b, o + i, none⟩
    exact this.trans (hc i hi).2
  · have hi : i < cs.length := by have := (List.getElem?_eq_some_iff.1 hx).1; rwa [List.length_set] at this
    have hic : i < c * k := Nat.lt_of_lt_of_le (by rw [← h1]; exact hi) (Nat.mul_le_mul_right k h2)
    rw [hs i (hc i hic).1]
    by_cases e : i = j
    · subst e; rw [if_pos rfl]; rw [List.getElem?_set_self hi] at hx; exact hx
    · rw [if_neg e]; rw [List.getElem?_set_ne (Ne.symm e)] at hx; exact hr i x hx
end

section
variable {P : Program} {B k n m by_ : Nat} {w : World} {v x : Value} {cs news : List Value} {t tx ty e : TypeId}
theorem run_append_ow (ht : P.underlying t = some (.slice e)) (hi : InfoOk P e k by_) (ho : Ow B w k v n cs) (hs : Src P k tx x m news w) (hB : B ≤ w.heap.size) (h63 : n + m ≤ maxLen) (hby : (n + m) * by_ ≤ 140737488355328) :
    ∃ v' w', (Builtin.append_ #[t, tx] ty #[v, x]).run P w = .ok v' w' ∧ Ow B w' k v' (n + m) (cs ++ news) ∧ w.grownBy w' v.ownBlock ∧ (v'.ownBlock = v.ownBlock ∨ v'.ownBlock = some w.heap.size) := by
  unfold InfoOk at hi
  cases hq : P.info? e with
  | none => rw [hq] at hi; cases hi
  | some i =>
    rw [hq] at hi
    simp only [Option.map_some, Option.some.injEq, Prod.mk.injEq] at hi
    obtain ⟨hz, hk, hb⟩ := hi
    cases hz' : i.zero with
    | none => rw [hz'] at hz; cases hz
    | some z =>
      rw [hz'] at hz
      simp only [Option.map_some, Option.some.injEq] at hz
      subst hk; subst hb
      have hlen : (cs ++ news).length = (n + m) * i.size := by rw [List.length_append, ho.1, hs.newsLen, Nat.add_mul]
      have h63' : ((n + m : Nat) : Int) ≤ 9223372036854775807 := by simp only [maxLen] at h63; omega
      have grow : ∀ (A : Option Addr) (c : Nat), v = .slice A n c → c < n + m → (Builtin.firstCells i.size n (.slice A n c)).run P w.drew = .ok cs.toArray w.drew →
          ∃ v' w', (Builtin.append_ #[t, tx] ty #[v, x]).run P w = .ok v' w' ∧ Ow B w' i.size v' (n + m) (cs ++ news) ∧ w.grownBy w' v.ownBlock ∧ (v'.ownBlock = v.ownBlock ∨ v'.ownBlock = some w.heap.size) := by
        rintro A c rfl hc hold
        have hr := run_append_grow_src (P := P) w t tx ty e i z ht hq hz' A n c cs hold x m news hs hc h63' (growslice_fits hc hby)
        refine ⟨_, _, hr, ⟨hlen, _, _, rfl, grownCap_ge w (n + m) c e, grownCap_le_maxLen w (n + m) c e h63, (fun h => by cases h), fun ad had => ?_⟩, ?_, .inr rfl⟩
        · cases had
          have hbk := Bk.new w.drew e ((cs ++ news) ++ (Builtin.zeroCells z.cells (grownCap w (n + m) c e - (n + m))).toList)
          have ea : ((cs ++ news) ++ (Builtin.zeroCells z.cells (grownCap w (n + m) c e - (n + m))).toList).toArray = (cs ++ news).toArray ++ Builtin.zeroCells z.cells (grownCap w (n + m) c e - (n + m)) := by
            apply Array.ext'; simp
          rw [ea] at hbk
          have hge := grownCap_ge w (n + m) c e
          refine ⟨w.heap.size, 0, rfl, hB, by rw [World.size_alloc]; exact Nat.lt_succ_self _, fun j hj => ⟨?_, hbk.frozen _⟩, fun j u hu => ?_⟩
          · rw [Nat.zero_add]
            have hlt : j < ((cs ++ news) ++ (Builtin.zeroCells z.cells (grownCap w (n + m) c e - (n + m))).toList).length := by
              rw [List.length_append, hlen, Array.length_toList, size_zeroCells, hz, ← Nat.add_mul]
              rwa [show n + m + (grownCap w (n + m) c e - (n + m)) = grownCap w (n + m) c e by omega]
            have := hbk.cellAt (List.getElem?_eq_getElem hlt)
            exact Option.isSome_iff_exists.2 ⟨_, this⟩
          · rw [Nat.zero_add]
            refine hbk.cellAt ?_
            rw [List.getElem?_append_left (List.getElem?_eq_some_iff.1 hu).1]; exact hu
        · exact gb_alloc (gb_drew (gb_refl w _)) _
      obtain ⟨h1, A, c, rfl, h2, h3, h4, h5⟩ := ho
      cases A with
      | none =>
        have hc0 : c = 0 := h4 rfl
        subst hc0
        have hn0 : n = 0 := by omega
        subst hn0
        have hcs : cs = [] := List.eq_nil_of_length_eq_zero (by simpa using h1)
        subst hcs
        by_cases hm : m = 0
        · subst hm
          have hnw : news = [] := List.eq_nil_of_length_eq_zero (by simpa using hs.newsLen)
          subst hnw
          exact ⟨_, _, run_append_nothing (P := P) w t tx ty e i ht hq none 0 0 (Nat.le_refl _) x hs, by simpa using Ow.nil B w i.size, gb_refl w _, .inl rfl⟩
        · exact grow none 0 rfl (by omega) (run_firstCells_none w.drew i.size 0 0 0)
      | some ad =>
        obtain ⟨b, o, rfl, hBb, hlt, hc, hr⟩ := h5 ad rfl
        by_cases hroom : n + m ≤ c
        · have hfit : n * i.size + news.length ≤ c * i.size := by rw [hs.newsLen, ← Nat.add_mul]; exact Nat.mul_le_mul_right _ hroom
          have e1 : ∀ j, o + n * i.size + j = o + (n * i.size + j) := fun j => by omega
          have hthere : ∀ j, j < news.length → (w.cell? ⟨b, o + n * i.size + j, none⟩).isSome = true := fun j hj => by rw [e1]; exact (hc _ (by omega)).1
          have hr' := run_append_room_src (P := P) w t tx ty e i ht hq b o n c x m news hs hroom hthere (fun j hj => by rw [e1]; exact (hc _ (by omega)).2)
          have gs := gb_setCells b news (o + n * i.size) w
          refine ⟨_, _, hr', ⟨hlen, _, c, rfl, hroom, h3, (fun h => by cases h), fun ad had => ?_⟩, gs, .inl rfl⟩
          cases had
          refine ⟨b, o, rfl, hBb, Nat.lt_of_lt_of_le hlt gs.size, fun j hj => ⟨?_, ?_⟩, fun j u hu => ?_⟩
          · exact World.isSome_setCells b news _ w _ (hc j hj).1
          · rw [World.frozen?_setCells]; exact (hc j hj).2
          · by_cases hj : j < cs.length
            · rw [List.getElem?_append_left hj] at hu
              rw [World.cell?_setCells_out b news _ w _ (fun _ _ => .inl (by show o + j < o + n * i.size; rw [← h1]; omega))]
              exact hr j u hu
            · rw [List.getElem?_append_right (by omega)] at hu
              have hj' : j - cs.length < news.length := (List.getElem?_eq_some_iff.1 hu).1
              have := World.cell?_setCells_in b news (o + n * i.size) w hthere (j - cs.length) hj'
              rw [List.getElem?_eq_getElem hj'] at hu
              rw [show o + n * i.size + (j - cs.length) = o + j by omega, hu] at this
              exact this
        · refine grow _ c rfl (by omega) ?_
          exact run_firstCells_some w.drew i.size n ⟨b, o, none⟩ n c cs h1 (fun j u hu => by rw [Addr.add_mid]; exact hr j u hu)

/-- The sources. -/
theorem src_rd {NB : Nat → Prop} {e' : TypeId} (hk : P.underlying tx = some (.slice e')) (h : Rd NB w k x m news) (h1 : ∀ u ∈ news, u.oneCell' = true) : Src P k tx x m news w := by
  obtain ⟨A, c, rfl, hmc, hc, hl, hr⟩ := h
  cases A with
  | none =>
    have hm : m = 0 := by
      rcases Nat.eq_zero_or_pos m with e | e
      · exact e
      · obtain ⟨_, _, h, _⟩ := hr e; cases h
    subst hm
    have : news = [] := List.eq_nil_of_length_eq_zero (by simpa using hl)
    subst this
    exact Src.ofNil w hk c
  | some ad =>
    refine Src.ofSlice w hk ad m c news hl (fun j u hu => ?_) h1
    rcases Nat.eq_zero_or_pos m with e | e
    · subst e; have : news = [] := List.eq_nil_of_length_eq_zero (by simpa using hl)
      subst this; simp at hu
    · obtain ⟨b, o, e', _, hr2⟩ := hr e
      cases e'; rw [Addr.add_mid]; exact hr2 j u hu
end

def sb (l : List UInt8) : ByteArray := ⟨l.toArray⟩
def sv (l : List UInt8) : Value := .string (sb l)
theorem sb_size (l : List UInt8) : (sb l).size = l.length := by simp [sb, ByteArray.size]
theorem sb_toList (l : List UInt8) : (sb l).toList = l := ByteArray.toList_mk l
theorem sb_append (l k : List UInt8) : sb l ++ sb k = sb (l ++ k) := ByteArray.mk_append_mk l k
theorem sb_data (l : List UInt8) : (sb l).data = l.toArray := rfl
theorem sb_of (s : ByteArray) : s = sb s.data.toList := by cases s; rfl
theorem bytes_one (l : List UInt8) : ∀ u ∈ l.map bv, u.oneCell' = true := by
  intro u hu; obtain ⟨x, _, rfl⟩ := List.mem_map.1 hu; rfl
theorem src_str {P : Program} {w : World} {tx : TypeId} (hk : P.underlying tx = some .string) (l : List UInt8) (n : Nat) (hn : n = l.length) : Src P 1 tx (sv l) n (l.map bv) w := by
  have := Src.ofString (P := P) w hk (sb l)
  rw [sb_size] at this; subst hn; exact this

section
variable {P : Program} {B k n m by_ : Nat} {w : World} {v y : Value} {cs news : List Value} {t tx ty e : TypeId}
variable {ops : Array Oper} {rest : List Oper} {a : Act} {Q : Exit → Act → World → Prop} {dst : Option Tmp} {pos : String} {aft : Array Edge}

theorem wpList_append_ow {s x : Operand} (hs : a.eval s = v) (hx : a.eval x = y) (ht : P.underlying t = some (.slice e)) (hi : InfoOk P e k by_) (ho : Ow B w k v n cs) (hsrc : Src P k tx y m news w)
    (hB : B ≤ w.heap.size) (h63 : n + m ≤ maxLen) (hby : (n + m) * by_ ≤ 140737488355328)
    (h : ∀ v' w', Ow B w' k v' (n + m) (cs ++ news) → w.grownBy w' v.ownBlock → (v'.ownBlock = v.ownBlock ∨ v'.ownBlock = some w.heap.size) → wpList P ops Q rest (a.put dst v') w') :
    wpList P ops Q (⟨dst, .call { callee := .builtin .append, args := #[s, x], argTypes := #[t, tx] }, ty, pos, aft, none⟩ :: rest) a w := by
  obtain ⟨v', w', hr, h1, h2, h3⟩ := run_append_ow (P := P) (ty := ty) ht hi ho hsrc hB h63 hby
  refine wpList_run rfl ?_ (h v' w' h1 h2 h3)
  simp only [execOp, resolve, invoke, builtin, Sem.run_bind, Sem.run_pure, Result.andThen_ok, List.map_toArray, List.map_cons, List.map_nil, hs, hx, hr]

theorem wpList_conv_sb {x : Operand} {d : TypeId} (ht : P.underlying t = some .string) (hd : P.underlying d = some (.slice e)) (he : P.underlying e = some (.int .u8)) (l : List UInt8) (hx : a.eval x = sv l) (hl : l.length ≤ maxLen) (hB : B ≤ w.heap.size)
    (h : ∀ v' w', Ow B w' 1 v' l.length (l.map bv) → w.grownBy w' none → v'.ownBlock = some w.heap.size → wpList P ops Q rest (a.put dst v') w') :
    wpList P ops Q (⟨dst, .convert t d x, ty, pos, aft, none⟩ :: rest) a w := by
  have hr := run_bytes_of_string (P := P) w t d e (sb l) ht hd he
  rw [sb_size] at hr
  have hge := grownCap_ge w l.length 0 e
  have hle := grownCap_le_maxLen w l.length 0 e hl
  have hsz : (bytesRow (sb l) (grownCap w l.length 0 e)).size = grownCap w l.length 0 e := by
    simp only [bytesRow, sb_data, sb_size, Array.size_append, Array.size_map, List.size_toArray, Array.size_replicate]; omega
  have hw : ∀ W, W = w.drew.alloc (.cells (bytesRow (sb l) (grownCap w l.length 0 e)) e ((bytesRow (sb l) (grownCap w l.length 0 e)).size, (bytesRow (sb l) (grownCap w l.length 0 e)).size + 1)) → w.grownBy W none := fun W hW => by rw [hW]; exact gb_alloc (gb_drew (gb_refl w _)) _
  refine wpList_run rfl ?_ (h _ (w.drew.alloc (.cells (bytesRow (sb l) (grownCap w l.length 0 e)) e ((bytesRow (sb l) (grownCap w l.length 0 e)).size, (bytesRow (sb l) (grownCap w l.length 0 e)).size + 1))) ⟨by simp, some ⟨w.heap.size, 0, none⟩, _, rfl, hge, hle, (fun h => by cases h), fun ad had => ?_⟩ (hw _ rfl) rfl)
  · simp only [execOp, hx, sv, Sem.run_bind, hr, Result.andThen_ok, Sem.run_pure]
  · cases had
    refine ⟨w.heap.size, 0, rfl, hB, by rw [World.size_alloc]; exact Nat.lt_succ_self _, fun j hj => ⟨?_, ?_⟩, fun j u hu => ?_⟩
    · rw [Nat.zero_add]
      have := World.cell?_alloc_mark w.drew (bytesRow (sb l) (grownCap w l.length 0 e)) e ((bytesRow (sb l) (grownCap w l.length 0 e)).size, (bytesRow (sb l) (grownCap w l.length 0 e)).size + 1) j
      exact Option.isSome_iff_exists.2 ⟨_, this.trans (Array.getElem?_eq_getElem (by omega))⟩
    · rw [Nat.zero_add]
      have := World.frozen?_alloc_mark w.drew (bytesRow (sb l) (grownCap w l.length 0 e)) e (bytesRow (sb l) (grownCap w l.length 0 e)).size ((bytesRow (sb l) (grownCap w l.length 0 e)).size + 1) j
      refine this.trans ?_
      rw [decide_eq_false (by omega)]; rfl
    · rw [Nat.zero_add]
      have hj : j < l.length := by have := (List.getElem?_eq_some_iff.1 hu).1; simpa using this
      have := World.cell?_alloc_mark w.drew (bytesRow (sb l) (grownCap w l.length 0 e)) e ((bytesRow (sb l) (grownCap w l.length 0 e)).size, (bytesRow (sb l) (grownCap w l.length 0 e)).size + 1) j
      refine this.trans ?_
      rw [bytesRow_at (sb l) _ j (by simpa [sb_data] using hj)]
      rw [List.getElem?_map, List.getElem?_eq_getElem hj] at hu
      simpa [sb_data, bv] using hu

theorem wpList_conv_bs {NB : Nat → Prop} {x : Operand} {d : TypeId} (ht : P.underlying t = some (.slice e)) (he : P.underlying e = some (.int .u8)) (hd : P.underlying d = some .string) (l : List UInt8) (hx : a.eval x = v) (hv : RdB NB w v l)
    (h : wpList P ops Q rest (a.put dst (sv l)) w) :
    wpList P ops Q (⟨dst, .convert t d x, ty, pos, aft, none⟩ :: rest) a w := by
  refine wpList_run rfl ?_ h
  have key : (convert t d v).run P w = .ok (sv l) w := by
    obtain ⟨A, c, rfl, hmc, hc, hl, hr⟩ := hv
    cases A with
    | none =>
      have hm : l = [] := by
        rcases Nat.eq_zero_or_pos l.length with e | e
        · exact List.eq_nil_of_length_eq_zero e
        · obtain ⟨_, _, h, _⟩ := hr e; cases h
      subst hm
      rw [run_convert_bytes_string w t d e none _ c ht he hd]
      simp [Conv.bytesToString, Sem.run_pure, sv]; rfl
    | some ad =>
      refine run_convert_bytes_back w t d e ad c l ht he hd (fun j hj => ?_)
      obtain ⟨b, o, e', _, hr2⟩ := hr (by omega)
      cases e'
      rw [Addr.add_mid]
      exact hr2 j _ (by rw [List.getElem?_map, List.getElem?_eq_getElem hj]; rfl)
  simp only [execOp, hx, Sem.run_bind, key, Result.andThen_ok, Sem.run_pure]

theorem wpList_add_str {x z : Operand} (l1 l2 : List UInt8) (hx : a.eval x = sv l1) (hz : a.eval z = sv l2) (hl : l1.length + l2.length ≤ 9223372036854775807)
    (h : wpList P ops Q rest (a.put dst (sv (l1 ++ l2))) w) :
    wpList P ops Q (⟨dst, .binOp .add t x z tx, ty, pos, aft, none⟩ :: rest) a w := by
  refine wpList_run rfl ?_ h
  have := run_string_add_sum (P := P) w (sb l1) (sb l2) (by rw [sb_size, sb_size]; exact hl)
  rw [sb_append] at this
  simp only [execOp, hx, hz, sv, Sem.run_bind, eqGuard_at_string, Sem.run_pure, Result.andThen_ok, binOp, this]
end

theorem src_new {P : Program} {tx e' : TypeId} (hk : P.underlying tx = some (.slice e')) (w : World) (e : TypeId) (k n : Nat) (cs : List Value) (hl : cs.length = n * k) (h1 : ∀ u ∈ cs, u.oneCell' = true) : Src P k tx (.slice (some ⟨w.heap.size, 0, none⟩) n n) n cs (w.alloc (.cells cs.toArray e)) :=
  Src.ofSlice _ hk _ n n cs hl (fun j u hu => by rw [Addr.add_mid]; exact rangeAt_new w e cs j u hu) h1
theorem gb_own {a b c : World} {row row' : Option Nat} (h : a.grownBy b row) (k : b.grownBy c row') (hr : ∀ r, row' = some r → a.heap.size ≤ r) : a.grownBy c row := by
  cases row' with
  | none => exact gb_trans h (gb_none k)
  | some r => exact gb_trans_new h k (hr r rfl)
theorem Ow.gb {a b c : World} {row : Option Nat} {B k n : Nat} {v : Value} {cs : List Value} (h : a.grownBy b row) (ho : Ow B b k v n cs) (hB : a.heap.size ≤ B) (hk : b.grownBy c v.ownBlock) : a.grownBy c row :=
  gb_own h hk (fun _r e => Nat.le_trans hB (ho.lt e).1)
theorem run_len_sv {P : Program} {t ty : TypeId} (ht : P.underlying t = some .string) (l : List UInt8) (w : World) : (Builtin.len_ #[t] ty #[sv l]).run P w = .ok (.int .i64 (l.length : Int)) w := by
  have := sb_size l
  simp [Builtin.len_, sv, run_underlying ht, this]
  rfl
end Sc
