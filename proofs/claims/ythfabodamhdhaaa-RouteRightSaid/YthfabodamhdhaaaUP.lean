/- The law of what is right. -/
import Derived.Test.YthfabodamhdhaaaTE
import Derived.Test.YthfabodamhdhaaaTP
import Derived.Test.YthfabodamhdhaaaUG
import Derived.Test.YthfabodamhdhaaaSX
import Derived.Test.YthfabodamhdhaaaTY
import Derived.Test.YthfabodamhdhaaaUM
import Derived.Test.YthfabodamhdhaaaTG
import Derived.Test.YthfabodamhdhaaaRH
namespace Go.Proofs.Ythfabodamhdhaaa
open Go Tx Go.RowKit
set_option linter.unusedSimpArgs false
set_option linter.unusedVariables false
theorem c13_6 : rest 6 body13 = .seq (.region 8 (hdO (rest 6 body13)) true) (rest 7 body13) := by kernel_rfl
theorem c13_8 : rest 8 body13 = .seq (.region 11 (hdO (rest 8 body13)) true) (rest 9 body13) := by kernel_rfl
theorem c13_11 : rest 2 (rest 9 body13) = .seq (.region 15 (hdO (rest 2 (rest 9 body13))) true) (rest 12 body13) := by kernel_rfl
theorem e_nil0 (w : World) (ad : Addr) : ∀ (j : Nat) (v : Value), ([] : List Value)[j]? = some v → w.cell? (ad.add j) = some v := fun j v h => by simp at h
theorem o_nil0 : ∀ v ∈ ([] : List Value), v.oneCell' = true := fun v h => by cases h
theorem rd_ptr0 {α : Type} {sz : Nat} {f : α → List Value} {L : List α} {z : Option Addr × Nat} {w : World} (h : Rd sz f (sV L.length z) L w) : (∃ a, z.1 = some a) ∨ (z = (none, 0) ∧ L.length = 0) := by
 obtain ⟨a, c⟩ := z
 rcases h with ⟨h1, h2⟩ | ⟨ad, c', h1, _⟩
 · simp only [Value.slice.injEq] at h1
   obtain ⟨rfl, h3, rfl⟩ := h1
   exact .inr ⟨rfl, h3⟩
 · simp only [Value.slice.injEq] at h1
   exact .inl ⟨ad, h1.1⟩
theorem tb_iw {m N : Nat} {y : TbG} {C : List (List Int)} {w : World} (h : TbIn m N y C w) : ∃ R : List Iw, R.length = y.D.length ∧ Rd 1 Iw.cs (.slice (some ⟨y.o, 0, none⟩) R.length y.c) R w ∧ (∀ r ∈ R, Rd 1 iF (.slice r.o r.xs.length r.c) r.xs w) ∧ R.map Iw.xs = C := by
 refine ⟨y.D.zipWith (fun p xs => ⟨some ⟨p.1, 0, none⟩, p.2, xs⟩) C, ?_, ?_, ?_, ?_⟩
 · rw [List.length_zipWith]; have := h.l; omega
 · have hl : (y.D.zipWith (fun p xs => (⟨some ⟨p.1, 0, none⟩, p.2, xs⟩ : Iw)) C).length = y.D.length := by rw [List.length_zipWith]; have := h.l; omega
   have e : (y.D.zipWith (fun p xs => (⟨some ⟨p.1, 0, none⟩, p.2, xs⟩ : Iw)) C).flatMap Iw.cs = y.D.map fun p => .slice (some ⟨p.1, 0, none⟩) N p.2 := by
    have hn := h.n
    have hl2 := h.l
    clear h hl
    generalize y.D = D at *
    induction D generalizing C with
    | nil => rfl
    | cons p D ih =>
     cases C with
     | nil => simp at hl2
     | cons xs C =>
      rw [List.zipWith_cons_cons, List.flatMap_cons, List.map_cons, ih (fun r hr => hn r (List.mem_cons_of_mem _ hr)) (by simp only [List.length_cons] at hl2; omega)]
      show [Value.slice _ xs.length _] ++ _ = _
      rw [hn xs (List.mem_cons_self ..)]; rfl
   have key : w.ownsRow 0 43 1 (.slice (some ⟨y.o, 0, none⟩) (y.D.zipWith (fun p xs => (⟨some ⟨p.1, 0, none⟩, p.2, xs⟩ : Iw)) C).length y.c) (y.D.zipWith (fun p xs => (⟨some ⟨p.1, 0, none⟩, p.2, xs⟩ : Iw)) C).length ((y.D.zipWith (fun p xs => (⟨some ⟨p.1, 0, none⟩, p.2, xs⟩ : Iw)) C).flatMap Iw.cs) := by rw [hl, e]; exact h.h
   exact Rd.of_owns (sz := 1) (f := Iw.cs) (fun _ => rfl) rfl rfl key
 · intro r hr
   obtain ⟨i, hi⟩ := List.mem_iff_getElem?.1 hr
   rw [List.getElem?_zipWith] at hi
   cases hp : y.D[i]? with
   | none => rw [hp] at hi; simp at hi
   | some p =>
    cases hx : C[i]? with
    | none => rw [hp, hx] at hi; simp at hi
    | some xs =>
     rw [hp, hx] at hi
     simp only [Option.some.injEq] at hi
     subst hi
     have hn := h.n xs (List.mem_of_getElem? hx)
     have := h.r i p xs hp hx
     dsimp only
     rw [← hn] at this
     exact Rd.of_owns (sz := 1) (f := iF) (fun _ => rfl) rfl rfl this
 · have hl2 := h.l
   clear h
   generalize y.D = D at *
   induction D generalizing C with
   | nil => cases C with | nil => rfl | cons a b => simp at hl2
   | cons p D ih =>
    cases C with
    | nil => simp at hl2
    | cons xs C =>
     rw [List.zipWith_cons_cons, List.map_cons, ih (by simp only [List.length_cons] at hl2; omega)]
theorem conv5 (a : Int) (h : 0 ≤ a ∧ a ≤ 255) : RunIs Try.prog (convert 5 3 (.int .u8 a)) (iv a) := fun w => by
 have h3 : IntKind.i64.wrap a = a := IR.wrap (k := .i64) (by constructor <;> omega)
 simp [convert, Conv.intToInt, Go.run_underlying under5 w, Go.run_underlying under3 w, h3]
def RpF (S : List (Int × Int × Int)) (k : Nat) (B : List (Int × Int × Int)) : Prop := B = S.eraseIdx k ∨ ∃ s : Int × Int × Int, (S[k]?).map (·.1) ≠ some s.1 ∧ B = S.set k s
def FFm (S : List (Int × Int × Int)) (k : Nat) (r : Fnd) : Prop := ∀ b, r = some b → RpF S k b.1
theorem trR_fm {x : To} {S B : List (Int × Int × Int)} {k : Nat} {r : Fnd} (h : FFm S k r) (hB : RpF S k B) : FFm S k (trR x r B) := fun b hb => by
 unfold trR at hb
 split at hb
 · cases r with
   | none =>
    simp only [Option.some.injEq] at hb
    subst hb; exact hB
   | some q =>
    dsimp only at hb
    split at hb
    · simp only [Option.some.injEq] at hb
      subst hb; exact hB
    · exact h b hb
 · exact h b hb
theorem fold_fm {S : List (Int × Int × Int)} {k : Nat} {α : Type} {g : Fnd → α → Fnd} : ∀ (l : List α) (r : Fnd), (∀ r a, a ∈ l → FFm S k r → FFm S k (g r a)) → FFm S k r → FFm S k (l.foldl g r)
 | [], _, _, h => h
 | a :: l, r, hg, h => fold_fm l (g r a) (fun r b hb => hg r b (List.mem_cons_of_mem _ hb)) (hg r a (List.mem_cons_self ..) h)
theorem rpO_fm (x : To) (S : List (Int × Int × Int)) (k : Nat) : FFm S k (rpO x S k) := by
 unfold rpO rpN
 refine fold_fm _ _ (fun r i _ hr => ?_) (trR_fm (fun b hb => by cases hb) (.inl rfl))
 unfold rpT
 split
 · exact hr
 · rename_i hne
   unfold rpF
   refine fold_fm _ _ (fun r f _ hr => ?_) hr
   unfold rpL
   exact fold_fm _ _ (fun r l _ hr => trR_fm hr (.inr ⟨_, hne, rfl⟩)) hr
set_option maxHeartbeats 8000000 in
set_option maxRecDepth 100000 in
theorem Ri4 (x y : Tr) (o : Option Addr) (c : Nat) (S : List (Int × Int × Int)) (fo : Option Addr) (fc : Nat) (F : List Int) (kk : Nat) (w : World) (B : List (Int × Int × Int)) (H : Int) (y2 : Option Addr × Nat) (ht : toB x.d = true) (hBf : fsO x.d B = []) (hBp : pfO x.d B = H) (hBl : B.length ≤ 20) (hy : (∃ a, y2.1 = some a) ∨ (y2 = (none, 0) ∧ B.length = 0))
 (h6 : VC Try.prog (rest 2 (rest 4 body13)) ⟨218, [(1, .v (.slice o S.length c)), (2, .v (.int .u8 kk)), (3, .v (.slice fo F.length fc)), (4, .ptr 0 0), (9, .ptr 1 0)], [(0, .cells x.l 25), (1, .cells y.l 35)], 2, fun w2 => Below w.heap.size w w2 ∧ (TrIn y w2 ∧ y.d = x.d), z0⟩ (endΦ env Try.f13 fun s σ => (∀ β, s.c β = .bool true) ∧ ∀ w', σ.h w' → Below w.heap.size w w')) :
 VC Try.prog (rest 4 body13) ⟨218, [(1, .v (.slice o S.length c)), (2, .v (.int .u8 kk)), (3, .v (.slice fo F.length fc)), (4, .ptr 0 0), (9, .ptr 1 0), (10, .v (sV B.length y2)), (11, .v (iv H)), (12, .v (iv 0))], [(0, .cells x.l 25), (1, .cells y.l 35)], 2, fun w2 => (Below w.heap.size w w2 ∧ (TrIn y w2 ∧ y.d = x.d)) ∧ Rd 3 spF (sV B.length y2) B w2, z0⟩ (endΦ env Try.f13 fun s σ => (∀ β, s.c β = .bool true) ∧ ∀ w', σ.h w' → Below w.heap.size w w') := by
 have hV : pfV x.d B = (H, 0) := by unfold pfV; rw [if_pos ht, if_pos hBl, if_pos hBf, hBp]
 have hsn := fs_spn (toB_n ht) hBf
 refine VC.cutH env mixed 2 2 (fun _ : Unit => [(1, .v (.slice o S.length c)), (2, .v (.int .u8 kk)), (3, .v (.slice fo F.length fc)), (4, .ptr 0 0), (9, .ptr 1 0)]) (fun _ => [(0, .cells x.l 25), (1, .cells y.l 35)]) (fun _ w2 => Below w.heap.size w w2 ∧ (TrIn y w2 ∧ y.d = x.d)) (fun _ => True) (fun _ _ => ⟨rfl, rfl⟩) ?_ (fun _ _ => h6)
 clear h6
 rcases Nat.eq_zero_or_pos B.length with h0 | h0
 · obtain rfl := List.length_eq_zero_iff.1 h0
   have h42 : ∀ w', Below w.heap.size w w' ∧ (TrIn y w' ∧ y.d = x.d) → Calls Try.prog 42 #[y.v, .slice none 0 0] w' fun e w2 => e = .returned (.tuple #[iv H, iv 0]) ∧ Below w'.heap.size w' w2 := fun w' hb => by
    have := Profit_ok y none 0 [] w' hb.2.1 ⟨.inl ⟨rfl, rfl⟩, by simp, by simp, fun s hs => by cases hs⟩
    rw [hb.2.2, hV] at this
    exact this
   clear hV hsn hBf hBp ht
   obtain ⟨yd, ys, yz, yto, ytc, yT, ylo, ylc, yL⟩ := y
   obtain ⟨y2a, y2c⟩ := y2
   rcases hy with ⟨ad, had⟩ | ⟨had, _⟩
   · dsimp only at had
     subst had
     skip
     repeat'
      conv => whnf
      first
       | refine zA ?_ | refine zB ?_ | refine zC ?_ | refine zD ?_ | refine zE ?_ | refine zF ?_ | refine zG ?_ | refine zH ?_ | refine zJ ?_ | refine zI ?_ | refine splT ?_ | refine splF ?_ | refine splNot ?_
       | ((first | refine splIn ?_ ?_ | refine splD ?_ ?_ | refine splE ?_ ?_ | refine splNE ?_ ?_) <;> intro hc <;> first | (exfalso; omega) | (exfalso; dsimp only at hc; omega) | skip)
       | refine Exists.intro (α := List Value) [] ⟨⟨rfl, fun w2 hw2 => e_nil0 w2 _, o_nil0⟩, ?_⟩
       | ((with_reducible show CallEv _ _ 42 _ _ _ _ _); refine callE (k := 42) (fun β w' hbw => h42 w' hbw.1) ?_)
     all_goals first | (exfalso; omega) | exact ⟨rfl, (), trivial, Ent.weak rfl ⟨rfl, rfl, rfl, rfl, rfl, trivial⟩ ⟨rfl, rfl, trivial⟩ fun w2 h => h.1⟩
   · simp only [Prod.mk.injEq] at had
     obtain ⟨rfl, rfl⟩ := had
     skip
     repeat'
      conv => whnf
      first
       | refine zA ?_ | refine zB ?_ | refine zC ?_ | refine zD ?_ | refine zE ?_ | refine zF ?_ | refine zG ?_ | refine zH ?_ | refine zJ ?_ | refine zI ?_ | refine splT ?_ | refine splF ?_ | refine splNot ?_
       | ((first | refine splIn ?_ ?_ | refine splD ?_ ?_ | refine splE ?_ ?_ | refine splNE ?_ ?_) <;> intro hc <;> first | (exfalso; omega) | (exfalso; dsimp only at hc; omega) | skip)
       | refine Exists.intro (α := List Value) [] ⟨⟨rfl, fun w2 hw2 => e_nil0 w2 _, o_nil0⟩, ?_⟩
       | ((with_reducible show CallEv _ _ 42 _ _ _ _ _); refine callE (k := 42) (fun β w' hbw => h42 w' hbw.1) ?_)
     all_goals first | (exfalso; omega) | exact ⟨rfl, (), trivial, Ent.weak rfl ⟨rfl, rfl, rfl, rfl, rfl, trivial⟩ ⟨rfl, rfl, trivial⟩ fun w2 h => h.1⟩
 · have hX := spl3 B
   have hXo := sp1 B
   obtain ⟨y2a, y2c⟩ := y2
   obtain ⟨ad, had⟩ : ∃ a, y2a = some a := by rcases hy with h | ⟨_, h⟩; exact h; omega
   subst had
   have hXe := fun w' (hb : Rd 3 spF (.slice (some ad) B.length y2c) B w') => Rd.ext (f := spF) (sz := 3) (fun _ => rfl) hb
   have h42 : ∀ (β : Nat → Nat) w', Below w.heap.size w w' ∧ (TrIn y w' ∧ y.d = x.d) → (Blk.own 3 (0 + B.length) 3 ([] ++ B.flatMap spF) 96).ok β w' (β 2) → Calls Try.prog 42 #[y.v, .slice (some ⟨β 2, 0, none⟩) (0 + B.length) (β 3)] w' fun e w2 => e = .returned (.tuple #[iv H, iv 0]) ∧ Below w'.heap.size w' w2 := fun β w' hb ho => by
    have h2 : w'.ownsRow 0 96 3 (.slice (some ⟨β 2, 0, none⟩) (0 + B.length) (β 3)) (0 + B.length) ([] ++ B.flatMap spF) := ho
    rw [List.nil_append] at h2
    have h3 : B.length ≤ β 3 := by
     rcases h2.2 with ⟨h', _⟩ | ⟨g, cap, cur, q0, q1, q2, q3, _⟩
     · cases h'
     · simp only [Value.slice.injEq] at q0
       obtain ⟨_, _, q0⟩ := q0
       omega
    have := Profit_ok y (some ⟨β 2, 0, none⟩) (β 3) B w' hb.2.1 ⟨Rd.of_owns (sz := 3) (f := spF) (fun _ => rfl) rfl rfl (by rw [← Nat.zero_add B.length]; exact h2), by omega, h3, fun s hs => by obtain ⟨a, f, l, rfl, g1, g2, g3⟩ := hsn s hs; dsimp only; omega⟩
    rw [hb.2.2, hV] at this
    rw [Nat.zero_add B.length]
    exact this
   clear hV hsn hBf hBp ht
   generalize B.flatMap spF = X0 at *
   obtain ⟨yd, ys, yz, yto, ytc, yT, ylo, ylc, yL⟩ := y
   repeat'
    conv => whnf
    first
     | refine zA ?_ | refine zB ?_ | refine zC ?_ | refine zD ?_ | refine zE ?_ | refine zF ?_ | refine zG ?_ | refine zH ?_ | refine zJ ?_ | refine zI ?_ | refine splT ?_ | refine splF ?_ | refine splNot ?_
     | ((first | refine splIn ?_ ?_ | refine splD ?_ ?_ | refine splE ?_ ?_ | refine splNE ?_ ?_) <;> intro hc <;> first | (exfalso; omega) | (exfalso; dsimp only at hc; omega) | skip)
     | refine Exists.intro (α := List Value) X0 ⟨⟨hX, fun w2 hw2 => hXe w2 hw2.2, hXo⟩, ?_⟩
     | ((with_reducible show CallEv _ _ 42 _ _ _ _ _); refine callM [2] (fun β w' hbk hbw => h42 β w' hbw.1 (hbk 2 (by simp) _ rfl)) ?_)
   all_goals first | (exfalso; omega) | exact ⟨rfl, (), trivial, Ent.weak rfl ⟨rfl, rfl, rfl, rfl, rfl, trivial⟩ ⟨rfl, rfl, trivial⟩ fun w2 h => h.1⟩
set_option maxHeartbeats 8000000 in
set_option maxRecDepth 100000 in
theorem Ri6 (x y : Tr) (o : Option Addr) (c : Nat) (S : List (Int × Int × Int)) (fo : Option Addr) (fc : Nat) (F : List Int) (kk : Nat) (w : World) (hF : Rd 1 iF (.slice fo F.length fc) F w) (hl : F.length ≤ 15) (ht : toB x.d = true)
 (h8 : VC Try.prog (rest 8 body13) ⟨218, [(1, .v (.slice o S.length c)), (2, .v (.int .u8 kk)), (3, .v (.slice fo F.length fc)), (4, .ptr 0 0), (9, .ptr 1 0)], [(0, .cells x.l 25), (1, .cells y.l 35)], 2, fun w2 => Below w.heap.size w w2 ∧ (TrIn y w2 ∧ y.d = x.d), z0⟩ (endΦ env Try.f13 fun s σ => (∀ β, s.c β = .bool true) ∧ ∀ w', σ.h w' → Below w.heap.size w w')) :
 VC Try.prog (rest 6 body13) ⟨218, [(1, .v (.slice o S.length c)), (2, .v (.int .u8 kk)), (3, .v (.slice fo F.length fc)), (4, .ptr 0 0), (9, .ptr 1 0)], [(0, .cells x.l 25), (1, .cells y.l 35)], 2, fun w2 => Below w.heap.size w w2 ∧ (TrIn y w2 ∧ y.d = x.d), z0⟩ (endΦ env Try.f13 fun s σ => (∀ β, s.c β = .bool true) ∧ ∀ w', σ.h w' → Below w.heap.size w w') := by
 have h29 := fun w' (hb : Below w.heap.size w w') => list_ok F fo fc w' (hF.below hb) (by omega)
 have hyl : y.d = x.d → y.T.length = x.T.length := fun h1 => by
  have := congrArg (fun x : To => x.T.length) h1
  simpa [Tr.d] using this
 rw [c13_6]
 by_cases hf : feB x.T.length F = true
 · have h28 : ∀ (y3 : Option Addr × Nat) w', (TrIn y w' ∧ y.d = x.d) → Rd 1 iF (sV F.length y3) F w' → Calls Try.prog 28 #[y.v, sV F.length y3] w' fun e w2 => ∃ z : TbG, e = .returned (.tuple #[iv (bdO F (tabO x.d F)), z.v, iv 0]) ∧ Below w'.heap.size w' w2 ∧ St w'.heap.size (fun w3 => ∃ m, TbIn m (x.days.toNat + 1) z (tabO x.d F) w3) w2 := fun y3 w' h1 h2 => by
    have := Bound_yes y y3.1 y3.2 F w' h1.1 h2 (by rw [h1.2]; exact ht) (by rw [hyl h1.2]; exact hf)
    have hdy : y.days = x.days := by
     have := congrArg (fun x : To => x.days) h1.2
     simpa [Tr.d] using this
    rw [h1.2, hdy] at this
    exact this.mono fun e w2 ⟨z, e1, e2, e3⟩ => ⟨z, e1, e2, e3.imp fun w3 h3 => ⟨_, h3⟩⟩
   have h43 : ∀ (z : TbG) (y3 : Option Addr × Nat) w', (TrIn y w' ∧ y.d = x.d) → (∃ m, TbIn m (x.days.toNat + 1) z (tabO x.d F) w') → Rd 1 iF (sV F.length y3) F w' → Calls Try.prog 43 #[y.v, sV F.length y3, iv (bdO F (tabO x.d F)), z.v] w' fun e w2 => ∃ _ : Unit, e = .returned (.bool true) ∧ Below w'.heap.size w' w2 ∧ St w'.heap.size (fun _ => True) w2 := fun z y3 w' h1 h2 h3 => by
    obtain ⟨m, hm⟩ := h2
    obtain ⟨R, r1, r2, r3, r4⟩ := tb_iw hm
    have hn := toB_n ht
    have hd := hn.d
    have hrl : R.length = (tabO x.d F).length := by rw [← r4, List.length_map]
    have hsh := tab_sh hn (feB_n hf).2
    obtain ⟨s1, s2, _, _⟩ := shO_iff.1 hsh
    have hxn := hn.n
    have := PB_ok y y3.1 y3.2 F (bdO F (tabO x.d F)) (some ⟨z.o, 0, none⟩) z.c R w' h1.1 h3 (by omega) r2 r3 (by omega) (fun r hr => by
     have := (s2 r.xs (by rw [← r4]; exact List.mem_map.2 ⟨r, hr, rfl⟩)).1
     have hdx : x.d.days = x.days := rfl
     omega)
    rw [h1.2, hyl h1.2, r4, ht, hf, hsh, r1] at this
    exact this.mono fun e w2 h => ⟨(), h.1, h.2, fun _ _ => trivial⟩
   refine VC.seq (f := fun σ' => ∃ z : TbG, Ent σ' ⟨218, [(1, .v (.slice o S.length c)), (2, .v (.int .u8 kk)), (3, .v (.slice fo F.length fc)), (4, .ptr 0 0), (9, .ptr 1 0), (15, .v (iv (bdO F (tabO x.d F)))), (16, .v z.v), (17, .v (iv 0))], [(0, .cells x.l 25), (1, .cells y.l 35)], 2, fun w2 => (Below w.heap.size w w2 ∧ (TrIn y w2 ∧ y.d = x.d)) ∧ ∃ m, TbIn m (x.days.toNat + 1) z (tabO x.d F) w2, z0⟩) ?_ (fun σ' ⟨z, hz⟩ => VC.ent ?_ hz (okB rfl rfl rfl))
   · clear h8 hF ht h43
     generalize bdO F (tabO x.d F) = bb at *
     generalize tabO x.d F = TT at *
     generalize S.length = n at *
     generalize F.length = m at *
     generalize hxd : x.d = xd at *
     generalize x.days.toNat + 1 = dd at *
     obtain ⟨dx, sx, zx, to, tc, T, lo, lc, L⟩ := x
     obtain ⟨yd, ys, yz, yto, ytc, yT, ylo, ylc, yL⟩ := y
     apply VC_reg2 env mixed 2 3 (fun y3 : Option Addr × Nat => sV m y3) (fun y3 w3 => Rd 1 iF (sV m y3) F w3) (fun z : TbG => .tuple #[iv bb, z.v, iv 0]) (fun z w3 => ∃ m, TbIn m dd z TT w3) (none, 0) ⟨0, 0, []⟩
     case h12 => decide
     case h3 => exact Nat.le_of_ble_eq_true (by kernel_rfl)
     case hd12 => kernel_rfl
     case hv =>
      intro y3 z
      repeat'
       conv => whnf
       first
        | refine zA ?_ | refine zB ?_ | refine zC ?_ | refine zD ?_ | refine zE ?_ | refine zF ?_ | refine zG ?_ | refine zH ?_ | refine zJ ?_ | refine zI ?_ | refine splT ?_ | refine splF ?_ | refine splNot ?_
        | ((first | refine splIn ?_ ?_ | refine splD ?_ ?_ | refine splE ?_ ?_ | refine splNE ?_ ?_) <;> intro hc <;> first | (exfalso; omega) | (exfalso; dsimp only at hc; omega) | skip)
        | refine And.intro (a := (_ : Bool) = true ∧ (_ : List _) = [] ∧ (_ : List _) = []) ⟨rfl, rfl, rfl⟩ ?_
        | (with_reducible show FamEv _ _ _ 29 _ _ _); refine FamEv.mk [] (fun β w' _ hbw => h29 w' (by repeat (first | exact hbw | replace hbw := hbw.1))) ?_
        | (with_reducible show FamEv _ _ _ 28 _ _ _); refine FamEv.mk [] (fun β w' _ hbw => h28 y3 w' hbw.1.2 hbw.2) ?_
      refine ⟨?_, z, Ent.weak rfl ⟨rfl, rfl, rfl, rfl, rfl, rfl, rfl, rfl, trivial⟩ ⟨rfl, rfl, trivial⟩ fun w2 h => ⟨h.1.1, h.2⟩⟩
      simp only [List.nil_append, List.cons_append, List.append_assoc]
      exact rfl
     case hk1 => intros; rfl
     case hk2 => intros; rfl
     case hi1 => exact fun _ _ _ => ⟨Or.inr rfl, Or.inr rfl, Or.inl (by kernel_rfl), Or.inl (by kernel_rfl), Or.inl (by kernel_rfl), Or.inl (by kernel_rfl), Or.inl (by kernel_rfl), Or.inl (by kernel_rfl), Or.inl (by kernel_rfl), Or.inl (by kernel_rfl), Or.inl (by kernel_rfl), trivial⟩
     case hi2 => exact fun _ _ _ => ⟨Or.inr rfl, Or.inr rfl, Or.inr rfl, Or.inl (by kernel_rfl), Or.inl (by kernel_rfl), Or.inl (by kernel_rfl), Or.inl (by kernel_rfl), Or.inl (by kernel_rfl), Or.inl (by kernel_rfl), Or.inl (by kernel_rfl), Or.inl (by kernel_rfl), trivial⟩
   · have hF1 : F ≠ [] := fun hc => by
      have h1 := (feB_n hf).1
      have hxn := (toB_n ht).n
      have hlx : x.d.T.length = x.T.length := List.length_map ..
      rw [hc] at h1
      simp only [List.length_nil] at h1
      omega
     have h29o := fun w' (hb : Below w.heap.size w w') => list_own F fo fc w' (hF.below hb) hF1 (by omega)
     have h43o : ∀ (β : Nat → Nat) w', (Below w.heap.size w w' ∧ (TrIn y w' ∧ y.d = x.d)) ∧ (∃ m, TbIn m (x.days.toNat + 1) z (tabO x.d F) w') → (Blk.own 3 F.length 1 (F.flatMap iF) 3).ok β w' (β 2) → Calls Try.prog 43 #[y.v, .slice (some ⟨β 2, 0, none⟩) F.length (β 3), iv (bdO F (tabO x.d F)), z.v] w' fun e w2 => e = .returned (.bool true) ∧ Below w'.heap.size w' w2 := fun β w' hb ho => by
      have h2 : w'.ownsRow 0 3 1 (.slice (some ⟨β 2, 0, none⟩) F.length (β 3)) F.length (F.flatMap iF) := ho
      exact (h43 z (some ⟨β 2, 0, none⟩, β 3) w' hb.1.2 hb.2 (Rd.of_owns (sz := 1) (f := iF) (fun _ => rfl) rfl rfl h2)).mono fun e w2 ⟨_, e1, e2, _⟩ => ⟨e1, e2⟩
     refine VC.cutH env mixed 1 2 (fun _ : Unit => [(1, .v (.slice o S.length c)), (2, .v (.int .u8 kk)), (3, .v (.slice fo F.length fc)), (4, .ptr 0 0), (9, .ptr 1 0)]) (fun _ => [(0, .cells x.l 25), (1, .cells y.l 35)]) (fun _ w2 => Below w.heap.size w w2 ∧ (TrIn y w2 ∧ y.d = x.d)) (fun _ => True) (fun _ _ => ⟨rfl, rfl⟩) ?_ (fun _ _ => h8)
     clear h8 hF ht h28 h43
     generalize bdO F (tabO x.d F) = bb at *
     generalize tabO x.d F = TT at *
     generalize F.flatMap iF = FX at *
     generalize F.length = m at *
     generalize hxd : x.d = xd at *
     generalize x.days.toNat + 1 = dd at *
     obtain ⟨dx, sx, zx, to, tc, T, lo, lc, L⟩ := x
     obtain ⟨yd, ys, yz, yto, ytc, yT, ylo, ylc, yL⟩ := y
     obtain ⟨z1, z2, z3⟩ := z
     repeat'
      conv => whnf
      first
       | refine zA ?_ | refine zB ?_ | refine zC ?_ | refine zD ?_ | refine zE ?_ | refine zF ?_ | refine zG ?_ | refine zH ?_ | refine zJ ?_ | refine zI ?_ | refine splT ?_ | refine splF ?_ | refine splNot ?_
       | ((first | refine splIn ?_ ?_ | refine splD ?_ ?_ | refine splE ?_ ?_ | refine splNE ?_ ?_) <;> intro hc <;> first | (exfalso; omega) | (exfalso; dsimp only at hc; omega) | skip)
       | ((with_reducible show CallEv _ _ 29 _ _ _ _ _); refine callO 2 [] (.os 2 3 m) m 1 FX 3 rfl (fun β w' _ hbw => (h29o w' (by repeat (first | exact hbw | replace hbw := hbw.1))).mono fun e w2 ⟨b, d, g1, g2, g3, g4⟩ => ⟨b, d, g1, by first | exact g2 | exact g3 | exact g4, by first | exact g2 | exact g3 | exact g4, by first | exact g2 | exact g3 | exact g4⟩) ?_)
       | ((with_reducible show CallEv _ _ 43 _ _ _ _ _); refine callM [2] (fun β w' hbk hbw => h43o β w' hbw (hbk 2 (by simp) _ rfl)) ?_)
     all_goals first | (exfalso; omega) | exact ⟨rfl, (), trivial, Ent.weak rfl ⟨rfl, rfl, rfl, rfl, rfl, trivial⟩ ⟨rfl, rfl, trivial⟩ fun w2 h => h.1⟩
 · have h28 : ∀ (y3 : Option Addr × Nat) w', (TrIn y w' ∧ y.d = x.d) → Rd 1 iF (sV F.length y3) F w' → Calls Try.prog 28 #[y.v, sV F.length y3] w' fun e w2 => ∃ _ : Unit, e = .returned (.tuple #[iv 0, .slice none 0 0, iv 1]) ∧ Below w'.heap.size w' w2 ∧ St w'.heap.size (fun _ => True) w2 := fun y3 w' h1 h2 => by
    have := Bound_no y y3.1 y3.2 F w' h1.1 h2 (by omega) (by rw [hyl h1.2, Bool.and_eq_false_iff]; exact .inr (by simpa using hf))
    exact this.mono fun e w2 ⟨e1, e2⟩ => ⟨(), e1, e2, fun _ _ => trivial⟩
   refine VC.seq (f := fun σ' => Ent σ' ⟨218, [(1, .v (.slice o S.length c)), (2, .v (.int .u8 kk)), (3, .v (.slice fo F.length fc)), (4, .ptr 0 0), (9, .ptr 1 0), (15, .v (iv 0)), (16, .v (.slice none 0 0)), (17, .v (iv 1))], [(0, .cells x.l 25), (1, .cells y.l 35)], 2, fun w2 => Below w.heap.size w w2 ∧ (TrIn y w2 ∧ y.d = x.d), z0⟩) ?_ (fun σ' hz => VC.ent ?_ hz (okB rfl rfl rfl))
   · clear h8 hF ht
     generalize S.length = n at *
     generalize F.length = m at *
     generalize hxd : x.d = xd at *
     obtain ⟨dx, sx, zx, to, tc, T, lo, lc, L⟩ := x
     obtain ⟨yd, ys, yz, yto, ytc, yT, ylo, ylc, yL⟩ := y
     apply VC_reg2 env mixed 2 3 (fun y3 : Option Addr × Nat => sV m y3) (fun y3 w3 => Rd 1 iF (sV m y3) F w3) (fun _ : Unit => .tuple #[iv 0, .slice none 0 0, iv 1]) (fun _ _ => True) (none, 0) ()
     case h12 => decide
     case h3 => exact Nat.le_of_ble_eq_true (by kernel_rfl)
     case hd12 => kernel_rfl
     case hv =>
      intro y3 _
      repeat'
       conv => whnf
       first
        | refine zA ?_ | refine zB ?_ | refine zC ?_ | refine zD ?_ | refine zE ?_ | refine zF ?_ | refine zG ?_ | refine zH ?_ | refine zJ ?_ | refine zI ?_ | refine splT ?_ | refine splF ?_ | refine splNot ?_
        | ((first | refine splIn ?_ ?_ | refine splD ?_ ?_ | refine splE ?_ ?_ | refine splNE ?_ ?_) <;> intro hc <;> first | (exfalso; omega) | (exfalso; dsimp only at hc; omega) | skip)
        | refine And.intro (a := (_ : Bool) = true ∧ (_ : List _) = [] ∧ (_ : List _) = []) ⟨rfl, rfl, rfl⟩ ?_
        | (with_reducible show FamEv _ _ _ 29 _ _ _); refine FamEv.mk [] (fun β w' _ hbw => h29 w' (by repeat (first | exact hbw | replace hbw := hbw.1))) ?_
        | (with_reducible show FamEv _ _ _ 28 _ _ _); refine FamEv.mk [] (fun β w' _ hbw => h28 y3 w' hbw.1.2 hbw.2) ?_
      refine ⟨?_, Ent.weak rfl ⟨rfl, rfl, rfl, rfl, rfl, rfl, rfl, rfl, trivial⟩ ⟨rfl, rfl, trivial⟩ fun w2 h => h.1.1⟩
      simp only [List.nil_append, List.cons_append, List.append_assoc]
      exact rfl
     case hk1 => intros; rfl
     case hk2 => intros; rfl
     case hi1 => exact fun _ _ _ => ⟨Or.inr rfl, Or.inr rfl, Or.inl (by kernel_rfl), Or.inl (by kernel_rfl), Or.inl (by kernel_rfl), Or.inl (by kernel_rfl), Or.inl (by kernel_rfl), Or.inl (by kernel_rfl), Or.inl (by kernel_rfl), Or.inl (by kernel_rfl), Or.inl (by kernel_rfl), trivial⟩
     case hi2 => exact fun _ _ _ => ⟨Or.inr rfl, Or.inr rfl, Or.inr rfl, Or.inl (by kernel_rfl), Or.inl (by kernel_rfl), Or.inl (by kernel_rfl), Or.inl (by kernel_rfl), Or.inl (by kernel_rfl), Or.inl (by kernel_rfl), Or.inl (by kernel_rfl), Or.inl (by kernel_rfl), trivial⟩
   · refine VC.cutE env mixed 1 2 (fun _ : Unit => [(1, .v (.slice o S.length c)), (2, .v (.int .u8 kk)), (3, .v (.slice fo F.length fc)), (4, .ptr 0 0), (9, .ptr 1 0)]) (fun _ => [(0, .cells x.l 25), (1, .cells y.l 35)]) (fun _ => True) (fun _ _ => ⟨rfl, rfl⟩) ?_ (fun _ _ => h8)
     clear h8
     repeat'
      conv => whnf
      first
       | refine zA ?_ | refine zB ?_ | refine zC ?_ | refine zD ?_ | refine zE ?_ | refine zF ?_ | refine zG ?_ | refine zH ?_ | refine zJ ?_ | refine zI ?_ | refine splT ?_ | refine splF ?_ | refine splNot ?_
       | ((first | refine splIn ?_ ?_ | refine splD ?_ ?_ | refine splE ?_ ?_ | refine splNE ?_ ?_) <;> intro hc <;> first | (exfalso; omega) | (exfalso; dsimp only at hc; omega) | skip)
     all_goals first | (exfalso; omega) | exact ⟨rfl, (), trivial, Ent.weak rfl ⟨rfl, rfl, rfl, rfl, rfl, trivial⟩ ⟨rfl, rfl, trivial⟩ fun w2 h => h⟩
set_option maxHeartbeats 8000000 in
set_option maxRecDepth 100000 in
theorem Ri8 (x y : Tr) (o : Option Addr) (c : Nat) (S : List (Int × Int × Int)) (fo : Option Addr) (fc : Nat) (F : List Int) (kk : Nat) (w : World) (hS : SpI0 o c S w) (hl : S.length ≤ 20) (h9 : VC Try.prog (rest 9 body13) ⟨218, [(1, .v (.slice o S.length c)), (2, .v (.int .u8 kk)), (3, .v (.slice fo F.length fc)), (4, .ptr 0 0), (9, .ptr 1 0), (18, .v (iv (pfV x.d S).1)), (19, .v (iv (pfV x.d S).2))], [(0, .cells x.l 25), (1, .cells y.l 35)], 2, fun w2 => Below w.heap.size w w2 ∧ (TrIn y w2 ∧ y.d = x.d), z0⟩ (endΦ env Try.f13 fun s σ => (∀ β, s.c β = .bool true) ∧ ∀ w', σ.h w' → Below w.heap.size w w')) :
 VC Try.prog (rest 8 body13) ⟨218, [(1, .v (.slice o S.length c)), (2, .v (.int .u8 kk)), (3, .v (.slice fo F.length fc)), (4, .ptr 0 0), (9, .ptr 1 0)], [(0, .cells x.l 25), (1, .cells y.l 35)], 2, fun w2 => Below w.heap.size w w2 ∧ (TrIn y w2 ∧ y.d = x.d), z0⟩ (endΦ env Try.f13 fun s σ => (∀ β, s.c β = .bool true) ∧ ∀ w', σ.h w' → Below w.heap.size w w') := by
 have h41 := fun w' (hb : Below w.heap.size w w') => Season_ok S o c w' (hS.r.below hb) (by omega)
 have h42 : ∀ (y3 : Option Addr × Nat) w', (TrIn y w' ∧ y.d = x.d) → (Rd 3 spF (sV S.length y3) S w' ∧ S.length ≤ y3.2) → Calls Try.prog 42 #[y.v, sV S.length y3] w' fun e w2 => ∃ _ : Unit, e = .returned (.tuple #[iv (pfV x.d S).1, iv (pfV x.d S).2]) ∧ Below w'.heap.size w' w2 ∧ St w'.heap.size (fun _ => True) w2 := fun y3 w' h1 h2 => by
  have := Profit_ok y y3.1 y3.2 S w' h1.1 ⟨h2.1, by omega, h2.2, fun s hs => ⟨(hS.n s hs).2.1, (hS.n s hs).2.2⟩⟩
  rw [h1.2] at this
  exact this.mono fun e w2 h => ⟨(), h.1, h.2, fun _ _ => trivial⟩
 rw [c13_8]
 refine VC.seq (f := fun σ' => Ent σ' ⟨218, [(1, .v (.slice o S.length c)), (2, .v (.int .u8 kk)), (3, .v (.slice fo F.length fc)), (4, .ptr 0 0), (9, .ptr 1 0), (18, .v (iv (pfV x.d S).1)), (19, .v (iv (pfV x.d S).2))], [(0, .cells x.l 25), (1, .cells y.l 35)], 2, fun w2 => Below w.heap.size w w2 ∧ (TrIn y w2 ∧ y.d = x.d), z0⟩) ?_ (fun σ' hz => VC.ent h9 hz (okB rfl rfl rfl))
 clear h9 hS
 generalize (pfV x.d S).1 = p1 at *
 generalize (pfV x.d S).2 = p2 at *
 generalize S.length = n at *
 generalize F.length = m at *
 generalize hxd : x.d = xd at *
 obtain ⟨dx, sx, zx, to, tc, T, lo, lc, L⟩ := x
 obtain ⟨yd, ys, yz, yto, ytc, yT, ylo, ylc, yL⟩ := y
 apply VC_reg2 env mixed 2 3 (fun y3 : Option Addr × Nat => sV n y3) (fun y3 w3 => Rd 3 spF (sV n y3) S w3 ∧ n ≤ y3.2) (fun _ : Unit => .tuple #[iv p1, iv p2]) (fun _ _ => True) (none, 0) ()
 case h12 => decide
 case h3 => exact Nat.le_of_ble_eq_true (by kernel_rfl)
 case hd12 => kernel_rfl
 case hv =>
  intro y3 _
  repeat'
   conv => whnf
   first
    | refine zA ?_ | refine zB ?_ | refine zC ?_ | refine zD ?_ | refine zE ?_ | refine zF ?_ | refine zG ?_ | refine zH ?_ | refine zJ ?_ | refine zI ?_ | refine splT ?_ | refine splF ?_ | refine splNot ?_
    | ((first | refine splIn ?_ ?_ | refine splD ?_ ?_ | refine splE ?_ ?_ | refine splNE ?_ ?_) <;> intro hc <;> first | (exfalso; omega) | (exfalso; dsimp only at hc; omega) | skip)
    | refine And.intro (a := (_ : Bool) = true ∧ (_ : List _) = [] ∧ (_ : List _) = []) ⟨rfl, rfl, rfl⟩ ?_
    | (with_reducible show FamEv _ _ _ 41 _ _ _); refine FamEv.mk [] (fun β w' _ hbw => h41 w' (by repeat (first | exact hbw | replace hbw := hbw.1))) ?_
    | (with_reducible show FamEv _ _ _ 42 _ _ _); refine FamEv.mk [] (fun β w' _ hbw => h42 y3 w' hbw.1.2 hbw.2) ?_
  refine ⟨?_, Ent.weak rfl ⟨rfl, rfl, rfl, rfl, rfl, rfl, rfl, trivial⟩ ⟨rfl, rfl, trivial⟩ fun w2 h => h.1.1⟩
  simp only [List.nil_append, List.cons_append, List.append_assoc]
  exact rfl
 case hk1 => intros; rfl
 case hk2 => intros; rfl
 case hi1 => exact fun _ _ _ => ⟨Or.inr rfl, Or.inr rfl, Or.inl (by kernel_rfl), Or.inl (by kernel_rfl), Or.inl (by kernel_rfl), Or.inl (by kernel_rfl), Or.inl (by kernel_rfl), Or.inl (by kernel_rfl), Or.inl (by kernel_rfl), trivial⟩
 case hi2 => exact fun _ _ _ => ⟨Or.inr rfl, Or.inr rfl, Or.inr rfl, Or.inl (by kernel_rfl), Or.inl (by kernel_rfl), Or.inl (by kernel_rfl), Or.inl (by kernel_rfl), Or.inl (by kernel_rfl), Or.inl (by kernel_rfl), trivial⟩
set_option maxHeartbeats 8000000 in
set_option maxRecDepth 100000 in
theorem Ri9 (x y : Tr) (o : Option Addr) (c : Nat) (S : List (Int × Int × Int)) (fo : Option Addr) (fc : Nat) (F : List Int) (kk : Nat) (w : World) (hS : SpI0 o c S w) (hl : S.length ≤ 20) (hk : kk ≤ 255) (ht : toB x.d = true)
 (h11 : fsO x.d S = [] → 1 ≤ S.length → VC Try.prog (rest 2 (rest 9 body13)) ⟨218, [(1, .v (.slice o S.length c)), (2, .v (.int .u8 kk)), (3, .v (.slice fo F.length fc)), (4, .ptr 0 0), (9, .ptr 1 0), (18, .v (iv (pfO x.d S))), (20, .v (iv (kk % S.length : Nat)))], [(0, .cells x.l 25), (1, .cells y.l 35)], 2, fun w2 => Below w.heap.size w w2 ∧ (TrIn y w2 ∧ y.d = x.d), z0⟩ (endΦ env Try.f13 fun s σ => (∀ β, s.c β = .bool true) ∧ ∀ w', σ.h w' → Below w.heap.size w w')) :
 VC Try.prog (rest 9 body13) ⟨218, [(1, .v (.slice o S.length c)), (2, .v (.int .u8 kk)), (3, .v (.slice fo F.length fc)), (4, .ptr 0 0), (9, .ptr 1 0), (18, .v (iv (pfV x.d S).1)), (19, .v (iv (pfV x.d S).2))], [(0, .cells x.l 25), (1, .cells y.l 35)], 2, fun w2 => Below w.heap.size w w2 ∧ (TrIn y w2 ∧ y.d = x.d), z0⟩ (endΦ env Try.f13 fun s σ => (∀ β, s.c β = .bool true) ∧ ∀ w', σ.h w' → Below w.heap.size w w') := by
 by_cases hg : fsO x.d S = [] ∧ 1 ≤ S.length
 · have hV : pfV x.d S = (pfO x.d S, 0) := by unfold pfV; rw [if_pos ht, if_pos hl, if_pos hg.1]
   rw [hV]
   have hmod : (kk : Int).tmod (S.length : Int) = ((kk % S.length : Nat) : Int) := rfl
   refine VC.cutE env mixed 2 2 (fun _ : Unit => [(1, .v (.slice o S.length c)), (2, .v (.int .u8 kk)), (3, .v (.slice fo F.length fc)), (4, .ptr 0 0), (9, .ptr 1 0), (18, .v (iv (pfO x.d S))), (20, .v (iv (kk % S.length : Nat)))]) (fun _ => [(0, .cells x.l 25), (1, .cells y.l 35)]) (fun _ => True) (fun _ _ => ⟨rfl, rfl⟩) ?_ (fun _ _ => h11 hg.1 hg.2)
   clear h11
   generalize kk % S.length = at_ at *
   generalize pfO x.d S = P at *
   repeat'
    conv => whnf
    first
     | refine zA ?_ | refine zB ?_ | refine zC ?_ | refine zD ?_ | refine zE ?_ | refine zF ?_ | refine zG ?_ | refine zH ?_ | refine zJ ?_ | refine zI ?_ | refine splT ?_ | refine splF ?_ | refine splNot ?_
     | ((first | refine splIn ?_ ?_ | refine splD ?_ ?_ | refine splE ?_ ?_ | refine splNE ?_ ?_) <;> intro hc <;> first | (exfalso; omega) | (exfalso; dsimp only at hc; omega) | skip)
     | refine Exists.intro (α := Value) (iv kk) ⟨conv5 _ (by omega), ?_⟩
     | refine Exists.intro (α := Int) (at_ : Int) ⟨⟨by omega, hmod⟩, ?_⟩
   all_goals first | (exfalso; omega) | exact ⟨rfl, (), trivial, Ent.weak rfl ⟨rfl, rfl, rfl, rfl, rfl, rfl, rfl, trivial⟩ ⟨rfl, rfl, trivial⟩ fun w2 h => h⟩
 · have hp : (pfV x.d S).2 ≠ 0 ∨ S.length = 0 := by
    by_cases h1 : fsO x.d S = []
    · exact .inr (Nat.eq_zero_of_not_pos fun h2 => hg ⟨h1, h2⟩)
    · refine .inl ?_
      unfold pfV; rw [if_pos ht, if_pos hl, if_neg h1]; decide
   generalize (pfV x.d S).1 = p1 at *
   generalize (pfV x.d S).2 = p2 at *
   refine VC.of env mixed ?_
   clear h11 hS hg
   repeat'
    conv => whnf
    first
     | refine zA ?_ | refine zB ?_ | refine zC ?_ | refine zD ?_ | refine zE ?_ | refine zF ?_ | refine zG ?_ | refine zH ?_ | refine zJ ?_ | refine zI ?_ | refine splT ?_ | refine splF ?_ | refine splNot ?_
     | ((first | refine splIn ?_ ?_ | refine splD ?_ ?_ | refine splE ?_ ?_ | refine splNE ?_ ?_) <;> intro hc <;> first | (exfalso; omega) | (exfalso; dsimp only at hc; omega) | skip)
     | ((with_reducible show CallEv _ _ 19 _ _ _ _ _); refine callE (k := 19) (fun β w' hbw => awake_ok w') ?_)
   all_goals first | (exfalso; omega) | exact ⟨fun β => rfl, fun w' h => (by repeat (first | exact h | replace h := h.1))⟩
set_option maxHeartbeats 8000000 in
set_option maxRecDepth 100000 in
theorem Ri11 (x y : Tr) (o : Option Addr) (c : Nat) (S : List (Int × Int × Int)) (fo : Option Addr) (fc : Nat) (F : List Int) (kk : Nat) (w : World) (P : Int) (at_ : Nat) (hS : SpI0 o c S w) (hl : S.length ≤ 20)
 (h12 : ∀ z : {z : Option Addr × Nat // (∃ a, z.1 = some a) ∨ (z = (none, 0) ∧ (rpV x.d S at_).1.length = 0)}, VC Try.prog (rest 12 body13) ⟨218, [(1, .v (.slice o S.length c)), (2, .v (.int .u8 kk)), (3, .v (.slice fo F.length fc)), (4, .ptr 0 0), (9, .ptr 1 0), (18, .v (iv P)), (20, .v (iv at_)), (21, .v (sV (rpV x.d S at_).1.length z.1)), (22, .v (iv (rpV x.d S at_).2.1)), (23, .v (iv (rpV x.d S at_).2.2))], [(0, .cells x.l 25), (1, .cells y.l 35)], 2, fun w2 => (Below w.heap.size w w2 ∧ (TrIn y w2 ∧ y.d = x.d)) ∧ (Rd 3 spF (sV (rpV x.d S at_).1.length z.1) (rpV x.d S at_).1 w2 ∧ (rpV x.d S at_).1.length ≤ z.1.2), z0⟩ (endΦ env Try.f13 fun s σ => (∀ β, s.c β = .bool true) ∧ ∀ w', σ.h w' → Below w.heap.size w w')) :
 VC Try.prog (rest 2 (rest 9 body13)) ⟨218, [(1, .v (.slice o S.length c)), (2, .v (.int .u8 kk)), (3, .v (.slice fo F.length fc)), (4, .ptr 0 0), (9, .ptr 1 0), (18, .v (iv P)), (20, .v (iv at_))], [(0, .cells x.l 25), (1, .cells y.l 35)], 2, fun w2 => Below w.heap.size w w2 ∧ (TrIn y w2 ∧ y.d = x.d), z0⟩ (endΦ env Try.f13 fun s σ => (∀ β, s.c β = .bool true) ∧ ∀ w', σ.h w' → Below w.heap.size w w') := by
 have h41 := fun w' (hb : Below w.heap.size w w') => Season_ok S o c w' (hS.r.below hb) (by omega)
 have h46 : ∀ (y3 : Option Addr × Nat) w', (TrIn y w' ∧ y.d = x.d) → (Rd 3 spF (sV S.length y3) S w' ∧ S.length ≤ y3.2) → Calls Try.prog 46 #[y.v, sV S.length y3, iv at_] w' fun e w2 => ∃ z : {z : Option Addr × Nat // (∃ a, z.1 = some a) ∨ (z = (none, 0) ∧ (rpV x.d S at_).1.length = 0)}, e = .returned (.tuple #[sV (rpV x.d S at_).1.length z.1, iv (rpV x.d S at_).2.1, iv (rpV x.d S at_).2.2]) ∧ Below w'.heap.size w' w2 ∧ St w'.heap.size (fun w2 => Rd 3 spF (sV (rpV x.d S at_).1.length z.1) (rpV x.d S at_).1 w2 ∧ (rpV x.d S at_).1.length ≤ z.1.2) w2 := fun y3 w' h1 h2 => by
  have := Replace_ok y y3.1 y3.2 S at_ w' h1.1 ⟨h2.1, by omega, h2.2, fun s hs => ⟨(hS.n s hs).2.1, (hS.n s hs).2.2⟩⟩
  rw [h1.2] at this
  exact this.mono fun e w2 ⟨z, e1, e2, e3⟩ => ⟨⟨z, rd_ptr0 (St.now e3).1⟩, e1, e2, e3⟩
 rw [c13_11]
 refine VC.seq (f := fun σ' => ∃ z : {z : Option Addr × Nat // (∃ a, z.1 = some a) ∨ (z = (none, 0) ∧ (rpV x.d S at_).1.length = 0)}, Ent σ' ⟨218, [(1, .v (.slice o S.length c)), (2, .v (.int .u8 kk)), (3, .v (.slice fo F.length fc)), (4, .ptr 0 0), (9, .ptr 1 0), (18, .v (iv P)), (20, .v (iv at_)), (21, .v (sV (rpV x.d S at_).1.length z.1)), (22, .v (iv (rpV x.d S at_).2.1)), (23, .v (iv (rpV x.d S at_).2.2))], [(0, .cells x.l 25), (1, .cells y.l 35)], 2, fun w2 => (Below w.heap.size w w2 ∧ (TrIn y w2 ∧ y.d = x.d)) ∧ (Rd 3 spF (sV (rpV x.d S at_).1.length z.1) (rpV x.d S at_).1 w2 ∧ (rpV x.d S at_).1.length ≤ z.1.2), z0⟩) ?_ (fun σ' ⟨z, hz⟩ => VC.ent (h12 z) hz (okB rfl rfl rfl))
 clear h12 hS
 generalize (rpV x.d S at_).1 = C at *
 generalize (rpV x.d S at_).2.1 = p1 at *
 generalize (rpV x.d S at_).2.2 = p2 at *
 generalize S.length = n at *
 generalize F.length = m at *
 generalize hxd : x.d = xd at *
 obtain ⟨dx, sx, zx, to, tc, T, lo, lc, L⟩ := x
 obtain ⟨yd, ys, yz, yto, ytc, yT, ylo, ylc, yL⟩ := y
 apply VC_reg2 env mixed 2 4 (fun y3 : Option Addr × Nat => sV n y3) (fun y3 w3 => Rd 3 spF (sV n y3) S w3 ∧ n ≤ y3.2) (fun z : {z : Option Addr × Nat // (∃ a, z.1 = some a) ∨ (z = (none, 0) ∧ C.length = 0)} => .tuple #[sV C.length z.1, iv p1, iv p2]) (fun z w2 => Rd 3 spF (sV C.length z.1) C w2 ∧ C.length ≤ z.1.2) (none, 0) ⟨(some ⟨0, 0, none⟩, 0), .inl ⟨_, rfl⟩⟩
 case h12 => decide
 case h3 => exact Nat.le_of_ble_eq_true (by kernel_rfl)
 case hd12 => kernel_rfl
 case hv =>
  intro y3 z
  repeat'
   conv => whnf
   first
    | refine zA ?_ | refine zB ?_ | refine zC ?_ | refine zD ?_ | refine zE ?_ | refine zF ?_ | refine zG ?_ | refine zH ?_ | refine zJ ?_ | refine zI ?_ | refine splT ?_ | refine splF ?_ | refine splNot ?_
    | ((first | refine splIn ?_ ?_ | refine splD ?_ ?_ | refine splE ?_ ?_ | refine splNE ?_ ?_) <;> intro hc <;> first | (exfalso; omega) | (exfalso; dsimp only at hc; omega) | skip)
    | refine And.intro (a := (_ : Bool) = true ∧ (_ : List _) = [] ∧ (_ : List _) = []) ⟨rfl, rfl, rfl⟩ ?_
    | (with_reducible show FamEv _ _ _ 41 _ _ _); refine FamEv.mk [] (fun β w' _ hbw => h41 w' (by repeat (first | exact hbw | replace hbw := hbw.1))) ?_
    | (with_reducible show FamEv _ _ _ 46 _ _ _); refine FamEv.mk [] (fun β w' _ hbw => h46 y3 w' hbw.1.2 hbw.2) ?_
  refine ⟨?_, z, Ent.weak rfl ⟨rfl, rfl, rfl, rfl, rfl, rfl, rfl, rfl, rfl, rfl, trivial⟩ ⟨rfl, rfl, trivial⟩ fun w2 h => ⟨h.1.1, h.2⟩⟩
  simp only [List.nil_append, List.cons_append, List.append_assoc]
  exact rfl
 case hk1 => intros; rfl
 case hk2 => intros; rfl
 case hi1 => exact fun _ _ _ => ⟨Or.inr rfl, Or.inr rfl, Or.inl (by kernel_rfl), Or.inr rfl, Or.inl (by kernel_rfl), Or.inl (by kernel_rfl), Or.inl (by kernel_rfl), Or.inl (by kernel_rfl), Or.inl (by kernel_rfl), Or.inl (by kernel_rfl), Or.inl (by kernel_rfl), Or.inl (by kernel_rfl), trivial⟩
 case hi2 => exact fun _ _ _ => ⟨Or.inr rfl, Or.inr rfl, Or.inr rfl, Or.inr rfl, Or.inl (by kernel_rfl), Or.inl (by kernel_rfl), Or.inl (by kernel_rfl), Or.inl (by kernel_rfl), Or.inl (by kernel_rfl), Or.inl (by kernel_rfl), Or.inl (by kernel_rfl), Or.inl (by kernel_rfl), trivial⟩
set_option maxHeartbeats 8000000 in
set_option maxRecDepth 100000 in
theorem Ri15 (x y : Tr) (o : Option Addr) (c : Nat) (S : List (Int × Int × Int)) (fo : Option Addr) (fc : Nat) (F : List Int) (kk : Nat) (w : World) (P : Int) (at_ : Nat) (C : List (Int × Int × Int)) (z : Option Addr × Nat) (hy : ((∃ a, z.1 = some a) ∨ (z = (none, 0) ∧ C.length = 0))) (hS : SpI0 o c S w) (hl : S.length ≤ 20) (hat : at_ < S.length) (hCf : RpF S at_ C) :
 VC Try.prog (rest 3 (rest 12 body13)) ⟨218, [(1, .v (.slice o S.length c)), (2, .v (.int .u8 kk)), (3, .v (.slice fo F.length fc)), (4, .ptr 0 0), (9, .ptr 1 0), (18, .v (iv P)), (20, .v (iv at_)), (21, .v (sV C.length z))], [(0, .cells x.l 25), (1, .cells y.l 35)], 2, fun w2 => (Below w.heap.size w w2 ∧ (TrIn y w2 ∧ y.d = x.d)) ∧ (Rd 3 spF (sV C.length z) C w2 ∧ C.length ≤ z.2), z0⟩ (endΦ env Try.f13 fun s σ => (∀ β, s.c β = .bool true) ∧ ∀ w', σ.h w' → Below w.heap.size w w') := by
 have hCl : C.length = S.length ∨ C.length = S.length - 1 := by
  rcases hCf with rfl | ⟨s, _, rfl⟩
  · right; rw [List.length_eraseIdx, if_pos hat]
  · left; rw [List.length_set]
 obtain ⟨_, ads, rfl, _⟩ := hS.r.ptr (by omega)
 obtain ⟨y2a, y2c⟩ := z
 have hget : ∀ m s, m ≠ at_ → S[m]? = some s → C[(if at_ < m then m - (S.length - C.length) else m)]? = some s := fun m s hne hs => by
  rcases hCf with rfl | ⟨s', _, rfl⟩
  · rw [List.length_eraseIdx, if_pos hat, List.getElem?_eraseIdx]
    split
    · rw [if_neg (by omega), show m - (S.length - (S.length - 1)) + 1 = m from by omega]; exact hs
    · rw [if_pos (by omega)]; exact hs
  · rw [List.length_set, Nat.sub_self, Nat.sub_zero, ite_self, List.getElem?_set_ne (by omega)]; exact hs
 have hend : C.length = S.length → ∀ a f l, S[at_]? = some (a, f, l) → ∃ a' f' l', C[at_]? = some (a', f', l') ∧ a' ≠ a := fun he a f l hs => by
  rcases hCf with rfl | ⟨⟨a', f', l'⟩, hne, rfl⟩
  · rw [List.length_eraseIdx, if_pos hat] at he; omega
  · refine ⟨a', f', l', by rw [List.getElem?_set_self hat], fun hc => hne ?_⟩
    rw [hs, hc]; rfl
 have hSr := fun w' (hb : Below w.heap.size w w') => hS.r.below hb
 refine VC.of env mixed ?_
 clear hS hCf
 obtain ⟨yd, ys, yz, yto, ytc, yT, ylo, ylc, yL⟩ := y
 repeat'
  conv => whnf
  first
   | refine zA ?_ | refine zB ?_ | refine zC ?_ | refine zD ?_ | refine zE ?_ | refine zF ?_ | refine zG ?_ | refine zH ?_ | refine zJ ?_ | refine zI ?_ | refine splT ?_ | refine splF ?_ | refine splNot ?_
   | ((first | refine splIn ?_ ?_ | refine splD ?_ ?_ | refine splE ?_ ?_ | refine splNE ?_ ?_) <;> intro hc <;> first | (exfalso; omega) | (exfalso; dsimp only at hc; omega) | skip)
 all_goals first | (exfalso; omega) | skip
 refine loopE (fun k : Nat => [(1, .v (.slice (some ads) S.length c)), (2, .v (.int .u8 kk)), (3, .v (.slice fo F.length fc)), (4, .ptr 0 0), (9, .ptr 1 0), (18, .v (iv P)), (20, .v (iv at_)), (21, .v (sV C.length (y2a, y2c))), (26, .v (iv k))]) (fun _ => [(0, .cells x.l 25), (1, .cells (Tr.l ⟨yd, ys, yz, yto, ytc, yT, ylo, ylc, yL⟩) 35)]) (fun k => k ≤ S.length) (fun k => S.length - k) 0 (Nat.zero_le _) ⟨rfl, rfl, rfl, rfl, rfl, rfl, rfl, rfl, rfl, trivial⟩ ⟨rfl, rfl, trivial⟩ (fun _ => ⟨rfl, rfl⟩) ?_
 intro k hk
 rcases Nat.lt_or_ge k S.length with hkl | hkl
 · obtain ⟨⟨a, f, l⟩, hs⟩ : ∃ s, S[k]? = some s := ⟨_, List.getElem?_eq_getElem hkl⟩
   have e1 := fun (w' : World) hw' => rd_fldz (hSr w' hw') hs ((k : Nat) : Int) rfl 0 (iv a) rfl
   have e2 := fun (w' : World) hw' => rd_fldz (hSr w' hw') hs ((k : Nat) : Int) rfl 1 (iv f) rfl
   have e3 := fun (w' : World) hw' => rd_fldz (hSr w' hw') hs ((k : Nat) : Int) rfl 2 (iv l) rfl
   rcases Nat.lt_trichotomy k at_ with hka | rfl | hka
   · have hg := hget k (a, f, l) (by omega) hs
     rw [if_neg (by omega)] at hg
     have hCk := (List.getElem?_eq_some_iff.1 hg).1
     obtain ⟨ad, had⟩ : ∃ a, y2a = some a := by rcases hy with h | ⟨_, h⟩; exact h; omega
     subst had
     have eC := fun (w' : World) (hw' : Rd 3 spF (.slice (some ad) C.length y2c) C w') => rd_atz hw' hg ((k : Nat) : Int) rfl
     repeat'
      conv => whnf
      first
       | refine zA ?_ | refine zB ?_ | refine zC ?_ | refine zD ?_ | refine zE ?_ | refine zF ?_ | refine zG ?_ | refine zH ?_ | refine zJ ?_ | refine zI ?_ | refine splT ?_ | refine splF ?_ | refine splNot ?_
       | ((first | refine splIn ?_ ?_ | refine splD ?_ ?_ | refine splE ?_ ?_ | refine splNE ?_ ?_) <;> intro hc <;> first | (exfalso; omega) | (exfalso; dsimp only at hc; omega) | skip)
       | refine Exists.intro (α := List Value) [iv a, iv f, iv l] ⟨⟨rfl, fun w' hw' => eC w' hw'.2.1⟩, ?_⟩
       | refine Exists.intro (α := List Value) [iv a] ⟨⟨rfl, fun w' hw' => e1 w' hw'.1.1⟩, ?_⟩
       | refine Exists.intro (α := List Value) [iv f] ⟨⟨rfl, fun w' hw' => e2 w' hw'.1.1⟩, ?_⟩
       | refine Exists.intro (α := List Value) [iv l] ⟨⟨rfl, fun w' hw' => e3 w' hw'.1.1⟩, ?_⟩
       | refine neqE96 (q := false) (by simp) ?_
     all_goals first | (exfalso; omega) | exact ⟨k + 1, by omega, by omega, Ent.weak rfl ⟨rfl, rfl, rfl, rfl, rfl, rfl, rfl, rfl, rfl, trivial⟩ ⟨rfl, rfl, trivial⟩ fun _ h => h⟩
   · skip
     repeat'
      conv => whnf
      first
       | refine zA ?_ | refine zB ?_ | refine zC ?_ | refine zD ?_ | refine zE ?_ | refine zF ?_ | refine zG ?_ | refine zH ?_ | refine zJ ?_ | refine zI ?_ | refine splT ?_ | refine splF ?_ | refine splNot ?_
       | ((first | refine splIn ?_ ?_ | refine splD ?_ ?_ | refine splE ?_ ?_ | refine splNE ?_ ?_) <;> intro hc <;> first | (exfalso; omega) | (exfalso; dsimp only at hc; omega) | skip)
     all_goals first | (exfalso; omega) | exact ⟨k + 1, by omega, by omega, Ent.weak rfl ⟨rfl, rfl, rfl, rfl, rfl, rfl, rfl, rfl, rfl, trivial⟩ ⟨rfl, rfl, trivial⟩ fun _ h => h⟩
   · have hg := hget k (a, f, l) (by omega) hs
     rw [if_pos hka] at hg
     have hCk := (List.getElem?_eq_some_iff.1 hg).1
     obtain ⟨ad, had⟩ : ∃ a, y2a = some a := by rcases hy with h | ⟨_, h⟩; exact h; omega
     subst had
     have eC := fun (w' : World) (hw' : Rd 3 spF (.slice (some ad) C.length y2c) C w') => rd_atz hw' hg ((k : Int) - ((S.length : Int) - (C.length : Int))) (by omega)
     repeat'
      conv => whnf
      first
       | refine zA ?_ | refine zB ?_ | refine zC ?_ | refine zD ?_ | refine zE ?_ | refine zF ?_ | refine zG ?_ | refine zH ?_ | refine zJ ?_ | refine zI ?_ | refine splT ?_ | refine splF ?_ | refine splNot ?_
       | ((first | refine splIn ?_ ?_ | refine splD ?_ ?_ | refine splE ?_ ?_ | refine splNE ?_ ?_) <;> intro hc <;> first | (exfalso; omega) | (exfalso; dsimp only at hc; omega) | skip)
       | refine Exists.intro (α := List Value) [iv a, iv f, iv l] ⟨⟨rfl, fun w' hw' => eC w' hw'.2.1⟩, ?_⟩
       | refine Exists.intro (α := List Value) [iv a] ⟨⟨rfl, fun w' hw' => e1 w' hw'.1.1⟩, ?_⟩
       | refine Exists.intro (α := List Value) [iv f] ⟨⟨rfl, fun w' hw' => e2 w' hw'.1.1⟩, ?_⟩
       | refine Exists.intro (α := List Value) [iv l] ⟨⟨rfl, fun w' hw' => e3 w' hw'.1.1⟩, ?_⟩
       | refine neqE96 (q := false) (by simp) ?_
     all_goals first | (exfalso; omega) | exact ⟨k + 1, by omega, by omega, Ent.weak rfl ⟨rfl, rfl, rfl, rfl, rfl, rfl, rfl, rfl, rfl, trivial⟩ ⟨rfl, rfl, trivial⟩ fun _ h => h⟩
 · obtain rfl : k = S.length := by omega
   by_cases he : C.length = S.length
   · obtain ⟨⟨a, f, l⟩, hs⟩ : ∃ s, S[at_]? = some s := ⟨_, List.getElem?_eq_getElem hat⟩
     obtain ⟨a', f', l', hc1, hc2⟩ := hend he a f l hs
     obtain ⟨ad, had⟩ : ∃ a, y2a = some a := by rcases hy with h | ⟨_, h⟩; exact h; omega
     subst had
     have eC := fun (w' : World) (hw' : Rd 3 spF (.slice (some ad) C.length y2c) C w') => rd_fldz hw' hc1 ((at_ : Nat) : Int) rfl 0 (iv a') rfl
     have e1 := fun (w' : World) hw' => rd_fldz (hSr w' hw') hs ((at_ : Nat) : Int) rfl 0 (iv a) rfl
     repeat'
      conv => whnf
      first
       | refine zA ?_ | refine zB ?_ | refine zC ?_ | refine zD ?_ | refine zE ?_ | refine zF ?_ | refine zG ?_ | refine zH ?_ | refine zJ ?_ | refine zI ?_ | refine splT ?_ | refine splF ?_ | refine splNot ?_
       | ((first | refine splIn ?_ ?_ | refine splD ?_ ?_ | refine splE ?_ ?_ | refine splNE ?_ ?_) <;> intro hc <;> first | (exfalso; omega) | (exfalso; dsimp only at hc; omega) | skip)
       | refine Exists.intro (α := List Value) [iv a'] ⟨⟨rfl, fun w' hw' => eC w' hw'.2.1⟩, ?_⟩
       | refine Exists.intro (α := List Value) [iv a] ⟨⟨rfl, fun w' hw' => e1 w' hw'.1.1⟩, ?_⟩
       | ((with_reducible show CallEv _ _ 19 _ _ _ _ _); refine callE (k := 19) (fun β w' hbw => awake_ok w') ?_)
     all_goals first | (exfalso; omega) | exact ⟨fun β => rfl, fun w' h => (by repeat (first | exact h | replace h := h.1))⟩
   · skip
     repeat'
      conv => whnf
      first
       | refine zA ?_ | refine zB ?_ | refine zC ?_ | refine zD ?_ | refine zE ?_ | refine zF ?_ | refine zG ?_ | refine zH ?_ | refine zJ ?_ | refine zI ?_ | refine splT ?_ | refine splF ?_ | refine splNot ?_
       | ((first | refine splIn ?_ ?_ | refine splD ?_ ?_ | refine splE ?_ ?_ | refine splNE ?_ ?_) <;> intro hc <;> first | (exfalso; omega) | (exfalso; dsimp only at hc; omega) | skip)
       | ((with_reducible show CallEv _ _ 19 _ _ _ _ _); refine callE (k := 19) (fun β w' hbw => awake_ok w') ?_)
     all_goals first | (exfalso; omega) | exact ⟨fun β => rfl, fun w' h => (by repeat (first | exact h | replace h := h.1))⟩
set_option maxHeartbeats 8000000 in
set_option maxRecDepth 100000 in
theorem Ri12 (x y : Tr) (o : Option Addr) (c : Nat) (S : List (Int × Int × Int)) (fo : Option Addr) (fc : Nat) (F : List Int) (kk : Nat) (w : World) (P m : Int) (at_ : Nat) (C : List (Int × Int × Int)) (z : Option Addr × Nat) (hy : ((∃ a, z.1 = some a) ∨ (z = (none, 0) ∧ C.length = 0))) (ht : toB x.d = true) (hS : SpI0 o c S w) (hl : S.length ≤ 20) (hs1 : 1 ≤ S.length) (hat : at_ < S.length) (hC : fsO x.d C = []) (hCp : pfO x.d C = m) (hCf : RpF S at_ C) (hPb : -300000000 ≤ P ∧ P ≤ 300000000)
 (h15 : VC Try.prog (rest 3 (rest 12 body13)) ⟨218, [(1, .v (.slice o S.length c)), (2, .v (.int .u8 kk)), (3, .v (.slice fo F.length fc)), (4, .ptr 0 0), (9, .ptr 1 0), (18, .v (iv P)), (20, .v (iv at_)), (21, .v (sV C.length z))], [(0, .cells x.l 25), (1, .cells y.l 35)], 2, fun w2 => (Below w.heap.size w w2 ∧ (TrIn y w2 ∧ y.d = x.d)) ∧ (Rd 3 spF (sV C.length z) C w2 ∧ C.length ≤ z.2), z0⟩ (endΦ env Try.f13 fun s σ => (∀ β, s.c β = .bool true) ∧ ∀ w', σ.h w' → Below w.heap.size w w')) :
 VC Try.prog (rest 12 body13) ⟨218, [(1, .v (.slice o S.length c)), (2, .v (.int .u8 kk)), (3, .v (.slice fo F.length fc)), (4, .ptr 0 0), (9, .ptr 1 0), (18, .v (iv P)), (20, .v (iv at_)), (21, .v (sV C.length z)), (22, .v (iv (m - P))), (23, .v (iv 0))], [(0, .cells x.l 25), (1, .cells y.l 35)], 2, fun w2 => (Below w.heap.size w w2 ∧ (TrIn y w2 ∧ y.d = x.d)) ∧ (Rd 3 spF (sV C.length z) C w2 ∧ C.length ≤ z.2), z0⟩ (endΦ env Try.f13 fun s σ => (∀ β, s.c β = .bool true) ∧ ∀ w', σ.h w' → Below w.heap.size w w') := by
 have hCl : C.length = S.length ∨ C.length = S.length - 1 := by
  rcases hCf with rfl | ⟨s, _, rfl⟩
  · right; rw [List.length_eraseIdx, if_pos hat]
  · left; rw [List.length_set]
 have hmb := pfR_bd (toB_n ht) hC (by omega)
 rw [hCp] at hmb
 have hV : pfV x.d C = (m, 0) := by unfold pfV; rw [if_pos ht, if_pos (by omega), if_pos hC, hCp]
 have hsn := fs_spn (toB_n ht) hC
 refine VC.cutH env mixed 3 2 (fun _ : Unit => [(1, .v (.slice o S.length c)), (2, .v (.int .u8 kk)), (3, .v (.slice fo F.length fc)), (4, .ptr 0 0), (9, .ptr 1 0), (18, .v (iv P)), (20, .v (iv at_)), (21, .v (sV C.length z))]) (fun _ => [(0, .cells x.l 25), (1, .cells y.l 35)]) (fun _ w2 => (Below w.heap.size w w2 ∧ (TrIn y w2 ∧ y.d = x.d)) ∧ (Rd 3 spF (sV C.length z) C w2 ∧ C.length ≤ z.2)) (fun _ => True) (fun _ _ => ⟨rfl, rfl⟩) ?_ (fun _ _ => h15)
 clear h15
 rcases Nat.eq_zero_or_pos C.length with h0 | h0
 · obtain rfl := List.length_eq_zero_iff.1 h0
   have h42 : ∀ w', Below w.heap.size w w' ∧ (TrIn y w' ∧ y.d = x.d) → Calls Try.prog 42 #[y.v, .slice none 0 0] w' fun e w2 => e = .returned (.tuple #[iv m, iv 0]) ∧ Below w'.heap.size w' w2 := fun w' hb => by
    have := Profit_ok y none 0 [] w' hb.2.1 ⟨.inl ⟨rfl, rfl⟩, by simp, by simp, fun s hs => by cases hs⟩
    rw [hb.2.2, hV] at this
    exact this
   clear hV hsn hC hCp ht hS hCf
   obtain ⟨yd, ys, yz, yto, ytc, yT, ylo, ylc, yL⟩ := y
   obtain ⟨y2a, y2c⟩ := z
   have hl1 : S.length = 1 := by simp at hCl; omega
   rcases hy with ⟨ad, had⟩ | ⟨had, _⟩
   · dsimp only at had
     subst had
     skip
     repeat'
      conv => whnf
      first
       | refine zA ?_ | refine zB ?_ | refine zC ?_ | refine zD ?_ | refine zE ?_ | refine zF ?_ | refine zG ?_ | refine zH ?_ | refine zJ ?_ | refine zI ?_ | refine splT ?_ | refine splF ?_ | refine splNot ?_
       | ((first | refine splIn ?_ ?_ | refine splD ?_ ?_ | refine splE ?_ ?_ | refine splNE ?_ ?_) <;> intro hc <;> first | (exfalso; omega) | (exfalso; dsimp only at hc; omega) | skip)
       | refine Exists.intro (α := List Value) [] ⟨⟨rfl, fun w2 hw2 => e_nil0 w2 _, o_nil0⟩, ?_⟩
       | ((with_reducible show CallEv _ _ 42 _ _ _ _ _); refine callE (k := 42) (fun β w' hbw => h42 w' hbw.1) ?_)
     all_goals first | (exfalso; omega) | exact ⟨rfl, (), trivial, Ent.weak rfl ⟨rfl, rfl, rfl, rfl, rfl, rfl, rfl, rfl, trivial⟩ ⟨rfl, rfl, trivial⟩ fun w2 h => h⟩
   · simp only [Prod.mk.injEq] at had
     obtain ⟨rfl, rfl⟩ := had
     skip
     repeat'
      conv => whnf
      first
       | refine zA ?_ | refine zB ?_ | refine zC ?_ | refine zD ?_ | refine zE ?_ | refine zF ?_ | refine zG ?_ | refine zH ?_ | refine zJ ?_ | refine zI ?_ | refine splT ?_ | refine splF ?_ | refine splNot ?_
       | ((first | refine splIn ?_ ?_ | refine splD ?_ ?_ | refine splE ?_ ?_ | refine splNE ?_ ?_) <;> intro hc <;> first | (exfalso; omega) | (exfalso; dsimp only at hc; omega) | skip)
       | ((with_reducible show CallEv _ _ 42 _ _ _ _ _); refine callE (k := 42) (fun β w' hbw => h42 w' hbw.1) ?_)
     all_goals first | (exfalso; omega) | exact ⟨rfl, (), trivial, Ent.weak rfl ⟨rfl, rfl, rfl, rfl, rfl, rfl, rfl, rfl, trivial⟩ ⟨rfl, rfl, trivial⟩ fun w2 h => h⟩
 · have hX := spl3 C
   have hXo := sp1 C
   obtain ⟨y2a, y2c⟩ := z
   obtain ⟨ad, had⟩ : ∃ a, y2a = some a := by rcases hy with h | ⟨_, h⟩; exact h; omega
   subst had
   have hXe := fun w' (hb : Rd 3 spF (.slice (some ad) C.length y2c) C w') => Rd.ext (f := spF) (sz := 3) (fun _ => rfl) hb
   have h42 : ∀ (β : Nat → Nat) w', Below w.heap.size w w' ∧ (TrIn y w' ∧ y.d = x.d) → (Blk.own 3 (0 + C.length) 3 ([] ++ C.flatMap spF) 96).ok β w' (β 2) → Calls Try.prog 42 #[y.v, .slice (some ⟨β 2, 0, none⟩) (0 + C.length) (β 3)] w' fun e w2 => e = .returned (.tuple #[iv m, iv 0]) ∧ Below w'.heap.size w' w2 := fun β w' hb ho => by
    have h2 : w'.ownsRow 0 96 3 (.slice (some ⟨β 2, 0, none⟩) (0 + C.length) (β 3)) (0 + C.length) ([] ++ C.flatMap spF) := ho
    rw [List.nil_append] at h2
    have h3 : C.length ≤ β 3 := by
     rcases h2.2 with ⟨h', _⟩ | ⟨g, cap, cur, q0, q1, q2, q3, _⟩
     · cases h'
     · simp only [Value.slice.injEq] at q0
       obtain ⟨_, _, q0⟩ := q0
       omega
    have := Profit_ok y (some ⟨β 2, 0, none⟩) (β 3) C w' hb.2.1 ⟨Rd.of_owns (sz := 3) (f := spF) (fun _ => rfl) rfl rfl (by rw [← Nat.zero_add C.length]; exact h2), by omega, h3, fun s hs => by obtain ⟨a, f, l, rfl, g1, g2, g3⟩ := hsn s hs; dsimp only; omega⟩
    rw [hb.2.2, hV] at this
    rw [Nat.zero_add C.length]
    exact this
   clear hV hsn hC hCp ht hS hCf hy
   generalize C.flatMap spF = X0 at *
   obtain ⟨yd, ys, yz, yto, ytc, yT, ylo, ylc, yL⟩ := y
   rcases hCl with hCl | hCl
   all_goals skip
   repeat'
    conv => whnf
    first
     | refine zA ?_ | refine zB ?_ | refine zC ?_ | refine zD ?_ | refine zE ?_ | refine zF ?_ | refine zG ?_ | refine zH ?_ | refine zJ ?_ | refine zI ?_ | refine splT ?_ | refine splF ?_ | refine splNot ?_
     | ((first | refine splIn ?_ ?_ | refine splD ?_ ?_ | refine splE ?_ ?_ | refine splNE ?_ ?_) <;> intro hc <;> first | (exfalso; omega) | (exfalso; dsimp only at hc; omega) | skip)
     | refine Exists.intro (α := List Value) X0 ⟨⟨hX, fun w2 hw2 => hXe w2 hw2.2.1, hXo⟩, ?_⟩
     | ((with_reducible show CallEv _ _ 42 _ _ _ _ _); refine callM [2] (fun β w' hbk hbw => h42 β w' hbw.1 (hbk 2 (by simp) _ rfl)) ?_)
   all_goals first | (exfalso; omega) | exact ⟨rfl, (), trivial, Ent.weak rfl ⟨rfl, rfl, rfl, rfl, rfl, rfl, rfl, rfl, trivial⟩ ⟨rfl, rfl, trivial⟩ fun w2 h => h⟩
set_option maxHeartbeats 8000000 in
set_option maxRecDepth 100000 in
theorem Ri12b (x y : Tr) (o : Option Addr) (c : Nat) (S : List (Int × Int × Int)) (fo : Option Addr) (fc : Nat) (F : List Int) (kk : Nat) (w : World) (at_ : Nat) (ht : toB x.d = true) (hS : SpI0 o c S w) (hl : S.length ≤ 20) (hs1 : 1 ≤ S.length) (hat : at_ < S.length) (hF : fsO x.d S = []) (z : {z : Option Addr × Nat // (∃ a, z.1 = some a) ∨ (z = (none, 0) ∧ (rpV x.d S at_).1.length = 0)}) :
 VC Try.prog (rest 12 body13) ⟨218, [(1, .v (.slice o S.length c)), (2, .v (.int .u8 kk)), (3, .v (.slice fo F.length fc)), (4, .ptr 0 0), (9, .ptr 1 0), (18, .v (iv (pfO x.d S))), (20, .v (iv at_)), (21, .v (sV (rpV x.d S at_).1.length z.1)), (22, .v (iv (rpV x.d S at_).2.1)), (23, .v (iv (rpV x.d S at_).2.2))], [(0, .cells x.l 25), (1, .cells y.l 35)], 2, fun w2 => (Below w.heap.size w w2 ∧ (TrIn y w2 ∧ y.d = x.d)) ∧ (Rd 3 spF (sV (rpV x.d S at_).1.length z.1) (rpV x.d S at_).1 w2 ∧ (rpV x.d S at_).1.length ≤ z.1.2), z0⟩ (endΦ env Try.f13 fun s σ => (∀ β, s.c β = .bool true) ∧ ∀ w', σ.h w' → Below w.heap.size w w') := by
 obtain ⟨z, hz⟩ := z
 dsimp only
 have hV := rpV_ok ht hl hF hat
 have hfm := rpO_fm x.d S at_
 have hok := rpN_ok (x := x.d) (n := S.length) (m := x.d.T.length - 1) (k := at_) (S := S) (Nat.le_refl _)
 change FOk x.d S.length (rpO x.d S at_) at hok
 cases hr : rpO x.d S at_ with
 | none =>
  rw [hr] at hV
  dsimp only at hV
  rw [hV] at hz ⊢
  dsimp only at hz ⊢
  refine VC.of env mixed ?_
  clear hV hr hok hfm hS hF
  repeat'
   conv => whnf
   first
    | refine zA ?_ | refine zB ?_ | refine zC ?_ | refine zD ?_ | refine zE ?_ | refine zF ?_ | refine zG ?_ | refine zH ?_ | refine zJ ?_ | refine zI ?_ | refine splT ?_ | refine splF ?_ | refine splNot ?_
    | ((first | refine splIn ?_ ?_ | refine splD ?_ ?_ | refine splE ?_ ?_ | refine splNE ?_ ?_) <;> intro hc <;> first | (exfalso; omega) | (exfalso; dsimp only at hc; omega) | skip)
    | ((with_reducible show CallEv _ _ 19 _ _ _ _ _); refine callE (k := 19) (fun β w' hbw => awake_ok w') ?_)
  all_goals first | (exfalso; omega) | exact ⟨fun β => rfl, fun w' h => (by repeat (first | exact h | replace h := h.1))⟩
 | some b =>
  rw [hr] at hV
  dsimp only at hV
  rw [hV] at hz ⊢
  dsimp only at hz ⊢
  obtain ⟨g1, g2, g3⟩ := hok b hr
  exact Ri12 x y o c S fo fc F kk w (pfO x.d S) b.2 at_ b.1 z hz ht hS hl hs1 hat g1 g2.symm (hfm b hr) (pfR_bd (toB_n ht) hF hl) (Ri15 x y o c S fo fc F kk w (pfO x.d S) at_ b.1 z hz hS hl hat (hfm b hr))
set_option maxHeartbeats 8000000 in
set_option maxRecDepth 100000 in
theorem RouteRight_ok (x : Tr) (o : Option Addr) (c : Nat) (S : List (Int × Int × Int)) (fo : Option Addr) (fc : Nat) (F : List Int) (kk : Nat) (w : World) (h : TrI0 x w) (hS : SpI0 o c S w) (hF : Rd 1 iF (.slice fo F.length fc) F w) (hFl : F.length ≤ 9223372036854775807) (hk : kk ≤ 255) :
 Calls Try.prog 13 #[x.v, .slice o S.length c, .int .u8 kk, .slice fo F.length fc] w fun e w' => e = .returned (.bool true) ∧ Below w.heap.size w w' := by
 have h22 := fun w' hb => Right_ok x w' (h.below hb)
 have htl := h.tl
 have hsl := hS.l
 obtain ⟨tb, htb⟩ : ∃ b, toB x.d = b := ⟨_, rfl⟩
 rw [htb] at h22
 by_cases hg : tb = true ∧ S.length ≤ 20 ∧ F.length ≤ 15
 · obtain ⟨rfl, hs, hf⟩ := hg
   have hI := h.b (toB_b htb)
   have hn := toB_n htb
   have h21 := fun w' hb => Tour_ok x w' (hI.below hb) (toB_b htb)
   obtain ⟨hb1, hb2⟩ := bs_ok hn (cs00 htb)
   have hbl : (bsS x.d).length ≤ 20 := by
    have h1 := seqO_len x.d x.d.T.length 0 0 0
    have h2 := hn.n
    unfold bsS
    omega
   have h20 : ∀ (y : Tr) w', TrIn y w' ∧ y.d = x.d → Calls Try.prog 20 #[y.v] w' fun e w2 => ∃ z : {z : Option Addr × Nat // (∃ a, z.1 = some a) ∨ (z = (none, 0) ∧ (bsS x.d).length = 0)}, e = .returned (.tuple #[sV (bsS x.d).length z.1, iv (hmO x.d (ALO x.d) 0 0 0), iv 0]) ∧ Below w'.heap.size w' w2 ∧ St w'.heap.size (Rd 3 spF (sV (bsS x.d).length z.1) (bsS x.d)) w2 := fun y w' hy => by
    have := Best_ok y w' hy.1
    unfold bsV at this
    rw [hy.2, if_pos htb] at this
    exact this.mono fun e w2 ⟨y2, e1, e2, e3⟩ => ⟨⟨y2, rd_ptr0 (St.now e3)⟩, e1, e2, e3⟩
   refine calls_valV env mixed Try.func13 has13 Try.ntmps13 [.agg #[iv x.days, iv x.shift, iv x.size, .slice x.to x.T.length x.tc, .slice x.lo x.L.length x.lc], .slice o S.length c, .int .u8 kk, .slice fo F.length fc] (by simp) ?_
   refine VC.cutH env mixed 4 2 (fun p : Tr × {z : Option Addr × Nat // (∃ a, z.1 = some a) ∨ (z = (none, 0) ∧ (bsS x.d).length = 0)} => [(1, .v (.slice o S.length c)), (2, .v (.int .u8 kk)), (3, .v (.slice fo F.length fc)), (4, .ptr 0 0), (9, .ptr 1 0), (10, .v (sV (bsS x.d).length p.2.1)), (11, .v (iv (hmO x.d (ALO x.d) 0 0 0))), (12, .v (iv 0))]) (fun p => [(0, .cells x.l 25), (1, .cells p.1.l 35)]) (fun p w2 => (Below w.heap.size w w2 ∧ (TrIn p.1 w2 ∧ p.1.d = x.d)) ∧ Rd 3 spF (sV (bsS x.d).length p.2.1) (bsS x.d) w2) (fun _ => True) (fun _ _ => ⟨rfl, rfl⟩) ?_ (fun ⟨y, y2⟩ _ =>
    Ri4 x y o c S fo fc F kk w (bsS x.d) _ y2.1 htb hb1 hb2 hbl y2.2 (Ri6 x y o c S fo fc F kk w hF hf htb (Ri8 x y o c S fo fc F kk w hS hs (Ri9 x y o c S fo fc F kk w hS hs hk htb fun hf0 hs1 => Ri11 x y o c S fo fc F kk w _ _ hS hs fun z => Ri12b x y o c S fo fc F kk w _ htb hS hs hs1 (Nat.mod_lt _ hs1) hf0 z))))
   clear h hI htb hS hF hn hb1 hb2 hbl
   generalize hmO x.d (ALO x.d) 0 0 0 = H at *
   generalize bsS x.d = BS at *
   obtain ⟨dx, sx, zx, to, tc, T, lo, lc, L⟩ := x
   dsimp only at htl
   repeat'
    conv => whnf
    first
     | refine zA ?_ | refine zB ?_ | refine zC ?_ | refine zD ?_ | refine zE ?_ | refine zF ?_ | refine zG ?_ | refine zH ?_ | refine zJ ?_ | refine zI ?_ | refine splT ?_ | refine splF ?_ | refine splNot ?_
     | ((first | refine splIn ?_ ?_ | refine splD ?_ ?_ | refine splE ?_ ?_ | refine splNE ?_ ?_) <;> intro hc <;> first | (exfalso; omega) | (exfalso; dsimp only at hc; omega) | skip)
     | ((with_reducible show CallEv _ _ 22 _ _ _ _ _); refine callE (k := 22) (fun β w' hbw => h22 w' (by repeat (first | exact hbw | replace hbw := hbw.1))) ?_)
     | ((with_reducible show CallEv _ _ 21 _ _ _ _ _); refine callF [] (fun y : Tr => y.v) (fun y w2 => TrIn y w2 ∧ y.d = Tr.d ⟨dx, sx, zx, to, tc, T, lo, lc, L⟩) (fun β w' _ hbw => h21 w' (by repeat (first | exact hbw | replace hbw := hbw.1))) ?_; intro y)
     | ((with_reducible show CallEv _ _ 20 _ _ _ _ _); refine callF [] (fun z : {z : Option Addr × Nat // (∃ a, z.1 = some a) ∨ (z = (none, 0) ∧ BS.length = 0)} => .tuple #[sV BS.length z.1, iv H, iv 0]) (fun z w2 => Rd 3 spF (sV BS.length z.1) BS w2) (fun β w' _ hbw => h20 y w' hbw.2) ?_; intro z)
   all_goals first | (exfalso; omega) | exact ⟨rfl, (y, z), trivial, Ent.weak rfl ⟨rfl, rfl, rfl, rfl, rfl, rfl, rfl, rfl, trivial⟩ ⟨rfl, rfl, trivial⟩ fun w2 h => h⟩
 · have hg2 : tb = true → ¬ (S.length ≤ 20 ∧ F.length ≤ 15) := fun h1 h2 => hg ⟨h1, h2⟩
   clear h htb hg
   obtain ⟨dx, sx, zx, to, tc, T, lo, lc, L⟩ := x
   dsimp only at htl
   refine calls_val env mixed Try.func13 has13 Try.ntmps13 [.agg #[iv dx, iv sx, iv zx, .slice to T.length tc, .slice lo L.length lc], .slice o S.length c, .int .u8 kk, .slice fo F.length fc] (by simp) ?_
   cases tb with
   | false =>
    repeat'
     conv => whnf
     first
      | refine zA ?_ | refine zB ?_ | refine zC ?_ | refine zD ?_ | refine zE ?_ | refine zF ?_ | refine zG ?_ | refine zH ?_ | refine zJ ?_ | refine zI ?_ | refine splT ?_ | refine splF ?_ | refine splNot ?_
      | ((first | refine splIn ?_ ?_ | refine splD ?_ ?_ | refine splE ?_ ?_ | refine splNE ?_ ?_) <;> intro hc <;> first | (exfalso; omega) | (exfalso; dsimp only at hc; omega) | skip)
      | ((with_reducible show CallEv _ _ 22 _ _ _ _ _); refine callE (k := 22) (fun β w' hbw => h22 w' (by repeat (first | exact hbw | replace hbw := hbw.1))) ?_)
      | ((with_reducible show CallEv _ _ 19 _ _ _ _ _); refine callE (k := 19) (fun β w' hbw => awake_ok w') ?_)
    all_goals first | (exfalso; omega) | exact ⟨fun β => rfl, fun w' h => (by repeat (first | exact h | replace h := h.1))⟩
   | true =>
    have hg3 := hg2 rfl
    clear hg2
    repeat'
     conv => whnf
     first
      | refine zA ?_ | refine zB ?_ | refine zC ?_ | refine zD ?_ | refine zE ?_ | refine zF ?_ | refine zG ?_ | refine zH ?_ | refine zJ ?_ | refine zI ?_ | refine splT ?_ | refine splF ?_ | refine splNot ?_
      | ((first | refine splIn ?_ ?_ | refine splD ?_ ?_ | refine splE ?_ ?_ | refine splNE ?_ ?_) <;> intro hc <;> first | (exfalso; omega) | (exfalso; dsimp only at hc; omega) | skip)
      | ((with_reducible show CallEv _ _ 22 _ _ _ _ _); refine callE (k := 22) (fun β w' hbw => h22 w' (by repeat (first | exact hbw | replace hbw := hbw.1))) ?_)
      | ((with_reducible show CallEv _ _ 19 _ _ _ _ _); refine callE (k := 19) (fun β w' hbw => awake_ok w') ?_)
    all_goals first | (exfalso; omega) | exact ⟨fun β => rfl, fun w' h => (by repeat (first | exact h | replace h := h.1))⟩
end Go.Proofs.Ythfabodamhdhaaa
