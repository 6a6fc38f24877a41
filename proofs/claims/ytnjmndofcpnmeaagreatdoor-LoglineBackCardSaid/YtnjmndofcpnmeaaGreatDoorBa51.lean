/- Texts laid together (wip/tools/automerge.py): LsBa, LawLgBa. -/
import Derived.Test.YtnjmndofcpnmeaaGreatDoorBa42
import Derived.Test.YtnjmndofcpnmeaaGreatDoorBa50
import Derived.Test.YtnjmndofcpnmeaaGreatDoorBa28
import Derived.Deep.DeepCutAuto
import Derived.BigQuiet
namespace Go.Proofs.YtnjmndofcpnmeaaGreatDoor
open Go Go.RowKit
set_option linter.unusedVariables false

/-- A fact's cells, in the walk's form. -/
structure F12 (w : World) (p : Addr) (m : FV) : Prop where
  cells : w.cell? p = some (.int .i64 m.t) ∧ w.cell? ⟨p.block, p.off + 1, none⟩ = some (.int .i64 m.mi) ∧ w.cell? ⟨p.block, p.off + 2, none⟩ = some (.int .i64 m.kd) ∧ w.cell? ⟨p.block, p.off + 3, none⟩ = some (.int .i64 m.fk) ∧ w.cell? ⟨p.block, p.off + 4, none⟩ = some (.slice m.FA m.fb.length m.fc) ∧ w.cell? ⟨p.block, p.off + 5, none⟩ = some (.slice m.CA m.cp.length m.cc) ∧ w.cell? ⟨p.block, p.off + 6, none⟩ = some (.string m.cr) ∧ w.cell? ⟨p.block, p.off + 7, none⟩ = some (.slice m.SA m.sp.length m.sc) ∧ w.cell? ⟨p.block, p.off + 8, none⟩ = some (.string m.sr) ∧ w.cell? ⟨p.block, p.off + 9, none⟩ = some (.int .i64 m.co) ∧ w.cell? ⟨p.block, p.off + 10, none⟩ = some (.int .i64 m.pr) ∧ w.cell? ⟨p.block, p.off + 11, none⟩ = some (.int .u32 (m.fl.toNat : Int))
theorem F12.ext {w w' : World} {p : Addr} {m : FV} (h : F12 w p m) (hx : Ext w w') : F12 w' p m := by
  obtain ⟨u0, u1, u2, u3, u4, u5, u6, u7, u8, u9, u10, u11⟩ := h.cells
  exact ⟨hx.cell u0, hx.cell u1, hx.cell u2, hx.cell u3, hx.cell u4, hx.cell u5, hx.cell u6, hx.cell u7, hx.cell u8, hx.cell u9, hx.cell u10, hx.cell u11⟩
theorem FS.f12 {w : World} {A : Option Addr} {n c : Nat} {xs : List FV} (h : FS w (.slice A n c) xs) (k : Nat) (hk : k < xs.length) : xs[k].In w ∧ ∃ ad, A = some ad ∧ F12 w (ad.add (k * 12)) xs[k] := by
  obtain ⟨hin, ad, e, u0, u1, u2, u3, u4, u5, u6, u7, u8, u9, u10, u11⟩ := h.at_ k hk
  exact ⟨hin, ad, e, ⟨u0, u1, u2, u3, u4, u5, u6, u7, u8, u9, u10, u11⟩⟩
/-- The client's cells of an alarm, in the walk's form. -/
structure M2 (w : World) (p : Addr) (m : MV) : Prop where
  cells : w.cell? p = some (.slice m.CA m.cp.length m.cc) ∧ w.cell? ⟨p.block, p.off + 1, none⟩ = some (.string m.cr)
theorem M2.ext {w w' : World} {p : Addr} {m : MV} (h : M2 w p m) (hx : Ext w w') : M2 w' p m := ⟨hx.cell h.cells.1, hx.cell h.cells.2⟩
theorem ROW.m2 {w : World} {B : Nat} {A : Option Addr} {n c : Nat} {ms : List MV} (h : ROW EM 50 w B (.slice A n c) ms) (k : Nat) (hk : k < ms.length) : ms[k].In w ∧ ∃ ad, A = some ad ∧ M2 w (ad.add (k * 7)) ms[k] := by
  obtain ⟨A', c', e1, _, _, h4⟩ := h.cells
  injection e1 with e1 _ _
  subst e1
  obtain ⟨hin, ad, hA, hc⟩ := h4 k hk
  refine ⟨hin, ad, hA, ⟨hc 0 _ rfl, ?_⟩⟩
  rw [cell_addj w ad (k * 7) 1 (by decide)]
  exact hc 1 _ rfl
/-- Only the client of an alarm. -/
def MV.cl (m : MV) : MV := ⟨m.CA, m.cp, m.cc, m.cr, 0, none, [], 0, 0, 0, 0⟩
theorem MV.In.cl {w : World} {m : MV} (h : m.In w) : m.cl.In w := ⟨h.cp, RS.nil w⟩
theorem sameC_alm {m q : MV} (h1 : m.alm.cp = q.alm.cp) (h2 : m.alm.cr = q.alm.cr) : sameA m.cl q.cl = true := sameA_alm (by
  unfold MV.alm MV.cl
  dsimp only [MV.alm] at h1 h2
  dsimp only
  rw [h1, h2])
theorem SameC_at (m q : MV) (w : World) (hm : m.In w) (hq : q.In w) (hml : m.cp.length ≤ 1000) (hql : q.cp.length ≤ 1000) :
    Calls Tryz.prog 17 #[.agg #[.slice m.CA m.cp.length m.cc, .string m.cr, .int .i64 0, .slice none 0 0, .int .i64 0, .int .i64 0, .int .i64 0], .agg #[.slice q.CA q.cp.length q.cc, .string q.cr, .int .i64 0, .slice none 0 0, .int .i64 0, .int .i64 0, .int .i64 0]] w fun e w' => e = .returned (.bool (sameA m.cl q.cl)) ∧ Ext w w' :=
  SameA_at m.cl q.cl w hm.cl hq.cl hml hql
theorem SameC_fact (q p : MV) (sb : Bool) (hsb : sameA q.cl p.cl = sb) (wr : World) (hA : q.In wr) (hB : p.In wr) (h1 : q.cp.length ≤ 1000) (h2 : p.cp.length ≤ 1000) : Hid (∀ W, Ext wr W → Calls Tryz.prog 17 #[.agg #[.slice q.CA q.cp.length q.cc, .string q.cr, .int .i64 0, .slice none 0 0, .int .i64 0, .int .i64 0, .int .i64 0], .agg #[.slice p.CA p.cp.length p.cc, .string p.cr, .int .i64 0, .slice none 0 0, .int .i64 0, .int .i64 0, .int .i64 0]] W fun e w' => e = .returned (.bool sb) ∧ Ext W w') := Lib.hid (fun W hW => by
  have k := SameC_at q p W (hA.ext hW) (hB.ext hW) h1 h2
  rw [hsb] at k
  exact k)
/-- What ParseLog answers, the errors too. -/
def PL3 (l : List UInt8) (v : Value) (ev : Int) (W : World) : Prop := (ev = 0 ∧ ∃ fs A c, v = .slice A fs.length c ∧ FS W (.slice A fs.length c) fs ∧ (∀ f ∈ fs, f.Sz) ∧ (fs.map FV.fct, 0, 0) = plogF (splb 10 [] l) []) ∨ (ev = 6 ∧ v = .slice none 0 0)
theorem splb_mem_len (x : UInt8) : ∀ (l acc m : List UInt8), m ∈ splb x acc l → m.length ≤ acc.length + l.length
  | [], acc, m, h => by simp [splb] at h; subst h; simp
  | c :: r, acc, m, h => by
    rw [splb] at h
    split at h
    · rcases List.mem_cons.1 h with rfl | h
      · simp
      · have := splb_mem_len x r [] m h
        simp at this ⊢
        omega
    · have := splb_mem_len x r (acc ++ [c]) m h
      simp at this ⊢
      omega
theorem PLogS_at (s : ByteArray) (hs : s.size ≤ 2000) (w : World) (hE : EnvA w) :
    Calls Tryz.prog 12 #[.string s] w fun e w' => (∃ (v : Value) (n ev : Int), e = .returned (.tuple #[v, .int .i64 n, .int .i64 ev]) ∧ PL3 s.data.toList v ev w') ∧ Ext w w' := by
  refine (LParseLog_at s (by omega) (fun x hx => ?_) w hE).mono ?_
  · have := splb_mem_len 10 _ _ _ hx
    rw [size_list] at this
    simp at this
    omega
  · rintro e w' ⟨h, hx⟩
    rcases h with ⟨v, fs, rfl, hrow, hz, he⟩ | ⟨n, rfl, he⟩
    · obtain ⟨A, c, rfl⟩ := hrow.shape
      exact ⟨⟨_, 0, 0, rfl, .inl ⟨rfl, fs, A, c, rfl, hrow.fs, hz, he.symm⟩⟩, hx⟩
    · exact ⟨⟨_, _, 6, rfl, .inr ⟨rfl, rfl⟩⟩, hx⟩
theorem txt_pos {f : Fct} (h : f.Ok) : 1 ≤ f.txt.length := by
  have h1 := txt_words h
  cases e : f.txt with
  | nil => rw [e] at h1; have := congrArg List.length h1; simp [splb, Fct.wrd] at this
  | cons x r => simp
theorem log_ge (fs : List Fct) (h : ∀ f ∈ fs, f.Ok) : 2 * fs.length ≤ (logT fs).length := by
  induction fs with
  | nil => simp
  | cons f fs ih =>
    have h1 := ih fun g hg => h g (List.mem_cons_of_mem _ hg)
    have h2 := txt_pos (h f (by simp))
    rw [logT_cons, List.length_append, List.length_cons, List.length_cons]
    omega
theorem all_ok {xs : List FV} : (xs.all fun x => x.fct.ok) = true ↔ ∀ f ∈ xs.map FV.fct, f.Ok := by
  rw [List.all_eq_true]
  constructor
  · intro h f hf
    obtain ⟨x, hx, rfl⟩ := List.mem_map.1 hf
    exact (Fct.ok_iff _).1 (h x hx)
  · intro h x hx
    exact (Fct.ok_iff _).2 (h _ (List.mem_map.2 ⟨x, hx, rfl⟩))
/-- Log of what ParseLog has read: the same bytes. -/
theorem LogBack_at (s : ByteArray) (hs : s.size ≤ 2000) (fs : List FV) (A : Option Addr) (c : Nat) (h : (fs.map FV.fct, 0, 0) = plogF (splb 10 [] s.data.toList) []) (w : World) (hF : FS w (.slice A fs.length c) fs) (hz : ∀ f ∈ fs, f.Sz) (hE : EnvA w) :
    Calls Tryz.prog 11 #[.slice A fs.length c] w fun e w' => e = .returned (.tuple #[.string s, .int .i64 0]) ∧ Ext w w' := by
  obtain ⟨h1, h2⟩ := plog_back2 h.symm
  have h3 := log_ge _ h1
  rw [h2, List.length_map, size_list] at h3
  have k := LLog_at A c fs w hF (by omega) hz hE
  rw [all_ok.2 h1] at k
  unfold logR at k
  rw [cond_true, cond_true, h2] at k
  exact k
/-- ParseLog of the log of facts: these facts. -/
theorem PLogBack_at (T : ByteArray) (xs : List FV) (hn : xs.length ≤ 40) (hok : ∀ f ∈ xs.map FV.fct, f.Ok) (hT : T.data.toList = logT (xs.map FV.fct)) (w : World) (hE : EnvA w) :
    Calls Tryz.prog 12 #[.string T] w fun e w' => (∃ ys A c, e = .returned (.tuple #[.slice A ys.length c, .int .i64 0, .int .i64 0]) ∧ FS w' (.slice A ys.length c) ys ∧ (∀ f ∈ ys, f.Sz) ∧ ys.map FV.fct = xs.map FV.fct) ∧ Ext w w' := by
  have h1 := log_len _ hok
  rw [← hT, size_list, List.length_map] at h1
  refine (LParseLog_at T (by omega) (fun x hx => ?_) w hE).mono ?_
  · rw [hT, log_lines hok] at hx
    rcases List.mem_append.1 hx with hx | hx
    · obtain ⟨f, hf, rfl⟩ := List.mem_map.1 hx
      have := txt_len (hok f hf)
      omega
    · simp at hx; subst hx; simp
  · rintro e w' ⟨h, hx⟩
    unfold PLg at h
    rw [hT, plog_back hok] at h
    rcases h with ⟨v, fs, rfl, hrow, hz, he⟩ | ⟨n, rfl, he⟩
    · obtain ⟨A, c, rfl⟩ := hrow.shape
      injection he with he _
      exact ⟨⟨fs, A, c, rfl, hrow.fs, hz, he.symm⟩, hx⟩
    · injection he with _ he; injection he with _ he; cases he
/-- What Parse answers, the errors too. -/
theorem ParseS_at (s : ByteArray) (hs : s.size ≤ 2000) (w : World) (hE : EnvA w) :
    Calls Tryz.prog 14 #[.string s] w fun e w' => (∃ (f : FV) (ev : Int), e = .returned (.tuple #[f.val, .int .i64 ev]) ∧ f.In w' ∧ f.Sz ∧ ((ev = 0 ∧ f.fct.Ok ∧ f.fct.txt = s.data.toList) ∨ ev = 6)) ∧ Ext w w' := by
  refine (LParse_at s (by omega) w hE).mono ?_
  rintro e w' ⟨h, hx⟩
  rcases h with ⟨f, hok, ht, rfl, hin, hz, _, _⟩ | ⟨_, rfl⟩
  · exact ⟨⟨f, 0, rfl, hin, hz, .inl ⟨rfl, hok, ht⟩⟩, hx⟩
  · exact ⟨⟨fv0, 6, rfl, ⟨RS.nil _, RS.nil _, RS.nil _⟩, ⟨by decide, by decide, fun p hp => (by cases hp), by decide, by decide, fun p hp => (by cases hp), by decide⟩, .inr rfl⟩, hx⟩
theorem TextBack_at (s : ByteArray) (f : FV) (hok : f.fct.Ok) (ht : f.fct.txt = s.data.toList) (w : World) (hM : f.In w) (hz : f.Sz) (hE : EnvA w) :
    Calls Tryz.prog 15 #[f.val] w fun e w' => e = .returned (.tuple #[.string s, .int .i64 0]) ∧ Ext w w' := by
  have k := LText_yes f w hM hz hE ((Fct.ok_iff _).2 hok)
  rw [ht] at k
  exact k
/-- The alarms, or none where the facts are not in order. -/
noncomputable def almS (l : List Fct) (win lim : Int) (ad : Bool) : List Alm := open Classical in if ordTo l l.length then (almF l win lim ad).map (almO l win ad) else []
noncomputable def ordE (l : List Fct) : Int := open Classical in if ordTo l l.length then 0 else 2
theorem alm_ms {l : List Fct} {win lim : Int} {ad : Bool} {xs : List FV} {ms : List MV} (hl : l = xs.map FV.fct) (hz : ∀ f ∈ xs, f.Sz) (h : ms.map MV.alm = almS l win lim ad) : ∀ m ∈ ms, m.cp.length ≤ 1000 := fun m hm => by
  subst hl
  have h1 : m.alm ∈ almS (xs.map FV.fct) win lim ad := h ▸ List.mem_map.2 ⟨m, hm, rfl⟩
  unfold almS at h1
  split at h1
  · obtain ⟨i, hi, e⟩ := List.mem_map.1 h1
    have hil := alm_lt hi
    rw [List.length_map] at hil
    have h2 := congrArg (fun a : Alm => a.cp.length) e
    dsimp only [MV.alm] at h2
    rw [dat_length] at h2
    rw [← h2]
    unfold almO
    rw [atF_xs hil]
    cases ad
    · rw [if_neg (by simp)]
      show (dat (xs[i]'hil).cp).length ≤ 1000
      rw [dat_length]
      exact (hz _ (List.getElem_mem hil)).cp
    · simp
  · cases h1
theorem ClientsS_at (A : Option Addr) (c : Nat) (xs : List FV) (win lim : Int) (w : World) (hF : FS w (.slice A xs.length c) xs) (hn : xs.length ≤ 1000) (hz : ∀ f ∈ xs, f.Sz) (hE : EnvA w) (h0 : 0 ≤ win) (h1 : win ≤ 1099511627776) (h2 : 1 ≤ lim) (h3 : lim ≤ 2000) :
    Calls Tryz.prog 16 #[.slice A xs.length c, .int .i64 win, .int .i64 lim] w fun e w' => (∃ ms A' c', e = .returned (.tuple #[.slice A' ms.length c', .int .i64 (ordE (xs.map FV.fct))]) ∧ ROW EM 50 w' w.heap.size (.slice A' ms.length c') ms ∧ ms.map MV.alm = almS (xs.map FV.fct) win lim false) ∧ Ext w w' := by
  classical
  refine (Clients_at A c xs win lim w hF hn hz hE ⟨by omega, by omega⟩).mono ?_
  rintro e w' ⟨h, hx⟩
  unfold ordE almS
  rcases h with ⟨hn, rfl⟩ | ⟨ha, v, ms, rfl, hrow, hms⟩
  · have ho : ¬ ordTo (xs.map FV.fct) (xs.map FV.fct).length := fun ho => hn ⟨h0, h1, h2, ho⟩
    rw [if_neg ho, if_neg ho]
    exact ⟨⟨[], none, 0, rfl, ROW.nil _ _ _, rfl⟩, hx⟩
  · rw [if_pos ha.2.2.2, if_pos ha.2.2.2]
    obtain ⟨A', c', rfl⟩ := hrow.shape
    exact ⟨⟨ms, A', c', rfl, hrow, hms⟩, hx⟩
theorem AddressesS_at (A : Option Addr) (c : Nat) (xs : List FV) (win lim : Int) (w : World) (hF : FS w (.slice A xs.length c) xs) (hn : xs.length ≤ 1000) (hz : ∀ f ∈ xs, f.Sz) (hwf : ∀ f ∈ xs, i64B f.fk) (hE : EnvA w) (h0 : 0 ≤ win) (h1 : win ≤ 1099511627776) (h2 : 1 ≤ lim) (h3 : lim ≤ 2000) :
    Calls Tryz.prog 18 #[.slice A xs.length c, .int .i64 win, .int .i64 lim] w fun e w' => (∃ ms A' c', e = .returned (.tuple #[.slice A' ms.length c', .int .i64 (ordE (xs.map FV.fct))]) ∧ ROW EM 50 w' w.heap.size (.slice A' ms.length c') ms ∧ ms.map MV.alm = almS (xs.map FV.fct) win lim true) ∧ Ext w w' := by
  classical
  refine (Addresses_at A c xs win lim w hF hn hz hwf hE ⟨by omega, by omega⟩).mono ?_
  rintro e w' ⟨h, hx⟩
  unfold ordE almS
  rcases h with ⟨hn, rfl⟩ | ⟨ha, v, ms, rfl, hrow, hms⟩
  · have ho : ¬ ordTo (xs.map FV.fct) (xs.map FV.fct).length := fun ho => hn ⟨h0, h1, h2, ho⟩
    rw [if_neg ho, if_neg ho]
    exact ⟨⟨[], none, 0, rfl, ROW.nil _ _ _, rfl⟩, hx⟩
  · rw [if_pos ha.2.2.2, if_pos ha.2.2.2]
    obtain ⟨A', c', rfl⟩ := hrow.shape
    exact ⟨⟨ms, A', c', rfl, hrow, hms⟩, hx⟩
theorem almS_len {l : List Fct} {w w' lim lim' : Int} {ad : Bool} {ma mb : List MV} (h : w' ≤ w) (k : lim ≤ lim') (ha : ma.map MV.alm = almS l w lim ad) (hb : mb.map MV.alm = almS l w' lim' ad) : mb.length ≤ ma.length := by
  classical
  have e1 := congrArg List.length ha
  have e2 := congrArg List.length hb
  unfold almS at e1 e2
  split at e1
  · next ho =>
    rw [if_pos ho] at e2
    simp only [List.length_map] at e1 e2
    rw [e1, e2]
    exact (alm_fewer h k).1
  · next ho =>
    rw [if_neg ho] at e2
    simp only [List.length_map, List.length_nil] at e1 e2
    omega
theorem almS_found {l : List Fct} {w w' lim lim' : Int} {ma mb : List MV} (h : w' ≤ w) (k : lim ≤ lim') (ha : ma.map MV.alm = almS l w lim false) (hb : mb.map MV.alm = almS l w' lim' false) (b : MV) (hm : b ∈ mb) : ma.any (fun a => sameA a.cl b.cl) = true := by
  classical
  have h1 : b.alm ∈ almS l w' lim' false := hb ▸ List.mem_map.2 ⟨b, hm, rfl⟩
  unfold almS at h1 ha
  split at h1
  · next ho =>
    rw [if_pos ho] at ha
    obtain ⟨i, hi, e⟩ := List.mem_map.1 h1
    obtain ⟨j, hj, hw⟩ := (alm_fewer h k).2 i hi
    have h2 : almO l w false j ∈ ma.map MV.alm := ha ▸ List.mem_map.2 ⟨j, hj, rfl⟩
    obtain ⟨a, hm2, e2⟩ := List.mem_map.1 h2
    unfold who at hw
    rw [if_neg (by simp), if_neg (by simp)] at hw
    injection hw with w1 w2
    refine List.any_eq_true.2 ⟨a, hm2, sameC_alm ?_ ?_⟩
    · rw [e2, ← e]; exact w1
    · rw [e2, ← e]; exact w2
  · cases h1
end Go.Proofs.YtnjmndofcpnmeaaGreatDoor
namespace Go.Proofs.YtnjmndofcpnmeaaGreatDoor
open Go Go.RowKit
set_option linter.unusedVariables false

set_option maxRecDepth 100000 in
set_option maxHeartbeats 8000000 in
theorem lawBa (A : Option Addr) (c : Nat) (xs : List FV) (s : ByteArray) (win lim nar hig : Int) (w : World) (hF : FS w (.slice A xs.length c) xs) (hwf : ∀ f ∈ xs, i64B f.fk) (hw : i64B win) (hl : i64B lim) (hn : 0 ≤ nar ∧ nar ≤ 255) (hh : 0 ≤ hig ∧ hig ≤ 255) (hE : EnvA w) :
    Calls Tryz.prog 3 #[.slice A xs.length c, .string s, .int .i64 win, .int .i64 lim, .int .u8 nar, .int .u8 hig] w fun e w' => e = .returned (.bool true) ∧ Ext w w' := by
  have HFW := Lib.hid (Few_at A c xs w hF)
  have HF := Lib.hid hF; have HE := Lib.hid hE; have HWF := Lib.hid hwf; have HNA := Lib.hid hn; have HHI := Lib.hid hh; have HWB := Lib.hid hw; have HLB := Lib.hid hl
  obtain ⟨fb, hfb⟩ : ∃ b, fewB xs = b := ⟨_, rfl⟩
  rw [hfb] at HFW
  obtain ⟨n, hn'⟩ : ∃ n, xs.length = n := ⟨_, rfl⟩
  have HN := Lib.hid hn'
  rw [hn'] at HF HFW ⊢
  clear hF hE hwf hn hh hw hl hn'
  cases fb with
  | false =>
    clear hfb
    go_enter Tryz.func3, Tryz.ntmps3
    go_wp2_with fail
    refine HFW.out.mono ?_
    rintro _ w1 ⟨rfl, hx1⟩
    have HX1 := Lib.hid hx1
    clear hx1
    go_wp2_with fail
    refine (LKnown_at _ (HE.out.ext HX1.out)).mono ?_
    rintro _ wk ⟨rfl, hxk⟩
    have HXK := Lib.hid (HX1.out.trans hxk)
    clear hxk
    go_wp2_with fail
    go_ret
    exact ⟨rfl, HXK.out⟩
  | true =>
  have HSZ := Lib.hid (fewB_yes hfb).1
  have hn40 : n ≤ 40 := by have := (fewB_yes hfb).2; rw [HN.out] at this; exact this
  clear hfb
  by_cases p0 : s.size ≤ 2000
  case neg =>
    have q0 : (2000 : Int) < (s.size : Int) := by omega
    clear p0
    go_enter Tryz.func3, Tryz.ntmps3
    go_wp2_with fail
    refine HFW.out.mono ?_
    rintro _ w1 ⟨rfl, hx1⟩
    have HX1 := Lib.hid hx1
    clear hx1
    go_wp2_with fail
    refine (LKnown_at _ (HE.out.ext HX1.out)).mono ?_
    rintro _ wk ⟨rfl, hxk⟩
    have HXK := Lib.hid (HX1.out.trans hxk)
    clear hxk
    go_wp2_with fail
    go_ret
    exact ⟨rfl, HXK.out⟩
  have q0 : (s.size : Int) ≤ 2000 := by omega
  have P0 := Lib.hid p0
  clear p0
  by_cases p1 : 0 ≤ win
  case neg =>
    have q1 : win < 0 := by omega
    clear p1
    go_enter Tryz.func3, Tryz.ntmps3
    go_wp2_with fail
    refine HFW.out.mono ?_
    rintro _ w1 ⟨rfl, hx1⟩
    have HX1 := Lib.hid hx1
    clear hx1
    go_wp2_with fail
    refine (LKnown_at _ (HE.out.ext HX1.out)).mono ?_
    rintro _ wk ⟨rfl, hxk⟩
    have HXK := Lib.hid (HX1.out.trans hxk)
    clear hxk
    go_wp2_with fail
    go_ret
    exact ⟨rfl, HXK.out⟩
  have q1 : 0 ≤ win := by omega
  have P1 := Lib.hid p1
  clear p1
  by_cases p2 : win ≤ 1099511627776
  case neg =>
    have q2 : decide ((1099511627776 : Int) < win) = true := decide_eq_true (by omega)
    clear p2
    go_enter Tryz.func3, Tryz.ntmps3
    go_wp2_with fail
    refine HFW.out.mono ?_
    rintro _ w1 ⟨rfl, hx1⟩
    have HX1 := Lib.hid hx1
    clear hx1
    go_wp2_with fail
    refine (LKnown_at _ (HE.out.ext HX1.out)).mono ?_
    rintro _ wk ⟨rfl, hxk⟩
    have HXK := Lib.hid (HX1.out.trans hxk)
    clear hxk
    go_wp2_with fail
    go_ret
    exact ⟨rfl, HXK.out⟩
  have q2 : decide ((1099511627776 : Int) < win) = false := decide_eq_false (by omega)
  have P2 := Lib.hid p2
  clear p2
  by_cases p3 : 1 ≤ lim
  case neg =>
    have q3 : lim < 1 := by omega
    clear p3
    go_enter Tryz.func3, Tryz.ntmps3
    go_wp2_with fail
    refine HFW.out.mono ?_
    rintro _ w1 ⟨rfl, hx1⟩
    have HX1 := Lib.hid hx1
    clear hx1
    go_wp2_with fail
    refine (LKnown_at _ (HE.out.ext HX1.out)).mono ?_
    rintro _ wk ⟨rfl, hxk⟩
    have HXK := Lib.hid (HX1.out.trans hxk)
    clear hxk
    go_wp2_with fail
    go_ret
    exact ⟨rfl, HXK.out⟩
  have q3 : 1 ≤ lim := by omega
  have P3 := Lib.hid p3
  clear p3
  by_cases p4 : lim ≤ 1000
  case neg =>
    have q4 : (1000 : Int) < lim := by omega
    clear p4
    go_enter Tryz.func3, Tryz.ntmps3
    go_wp2_with fail
    refine HFW.out.mono ?_
    rintro _ w1 ⟨rfl, hx1⟩
    have HX1 := Lib.hid hx1
    clear hx1
    go_wp2_with fail
    refine (LKnown_at _ (HE.out.ext HX1.out)).mono ?_
    rintro _ wk ⟨rfl, hxk⟩
    have HXK := Lib.hid (HX1.out.trans hxk)
    clear hxk
    go_wp2_with fail
    go_ret
    exact ⟨rfl, HXK.out⟩
  have q4 : lim ≤ 1000 := by omega
  have P4 := Lib.hid p4
  clear p4
  have HLG := Lib.hid (fun W (hx : Ext w W) => LLog_at A c xs W ((HN.out ▸ HF.out : FS w (.slice A xs.length c) xs).ext hx) (by have := HN.out; omega) HSZ.out (HE.out.ext hx))
  unfold logR at HLG
  obtain ⟨ok, hok⟩ : ∃ b, (xs.all fun x => x.fct.ok) = b := ⟨_, rfl⟩
  rw [hok] at HLG
  obtain ⟨TL, hTL⟩ : ∃ T : ByteArray, (⟨(bif ok then logT (xs.map FV.fct) else []).toArray⟩ : ByteArray) = T := ⟨_, rfl⟩
  obtain ⟨ev, hev⟩ : ∃ ev : Int, (bif ok then 0 else 2) = ev := ⟨_, rfl⟩
  rw [hTL, hev] at HLG
  have HPB := Lib.hid (fun (h : ok = true) W (hx : Ext w W) => PLogBack_at TL xs (by have := HN.out; omega) (all_ok.1 (hok.trans h)) (by rw [← hTL, h]; rfl) W (HE.out.ext hx))
  have HEV := Lib.hid hev
  rw [HN.out] at HLG
  clear hTL hok hev
  go_enter Tryz.func3, Tryz.ntmps3
  go_wp2_with fail
  refine HFW.out.mono ?_
  rintro _ w1 ⟨rfl, hx1⟩
  have HX1 := Lib.hid hx1
  clear hx1 HFW
  go_wp2_with fail
  refine (HLG.out _ HX1.out).mono ?_
  rintro _ w2 ⟨rfl, hx2⟩
  have HX2 := Lib.hid (HX1.out.trans hx2)
  clear hx2 HX1 HLG
  go_upto_if 70 with fail
  go_cut [15, 16, 17, 18] (fun _ _ _ _ wc => Hid (Ext w wc))
  case first =>
    cases ok with
    | false =>
      have e0 : (ev == 0) = false := by rw [← HEV.out]; rfl
      go_wp2_with fail
      go_meet
      case rel => exact HX2
    | true =>
      have e0 : (ev == 0) = true := by rw [← HEV.out]; rfl
      go_wp2_with fail
      refine (HPB.out (by first | rfl | trivial) _ HX2.out).mono ?_
      rintro _ w3 ⟨⟨ys, A5, c5, rfl, hF5, hz5, hy5⟩, hx3⟩
      have HX3 := Lib.hid (HX2.out.trans hx3); have HX23 := Lib.hid hx3
      have hyl : ys.length = n := by have := congrArg List.length hy5; rw [List.length_map, List.length_map, HN.out] at this; exact this
      have HYL := Lib.hid hyl; have HF5 := Lib.hid hF5; have HZ5 := Lib.hid hz5; have HY5 := Lib.hid hy5
      rw [hyl]
      clear hx3 hF5 hz5 hy5 hyl e0
      go_wp2_with fail
      go_loopw [18] (fun i wr => ∃ k : Nat, k ≤ n ∧ i = .int .i64 k ∧ Hid (Ext w3 wr)) (fun i _ => n - (intOf i).toNat)
      case atStart => exact ⟨0, Nat.zero_le _, rfl, Lib.hid (Ext.refl w3)⟩
      case round =>
        obtain ⟨k, hk, rfl, HX⟩ := hrel
        by_cases hlt : k < n
        · obtain ⟨hin5, a5, rfl, h5⟩ := (HF5.out.ext HX.out).f12 k (by rw [HYL.out]; exact hlt)
          obtain ⟨hin0, a0, rfl, h0⟩ := (HF.out.ext (HX3.out.trans HX.out)).f12 k (by rw [HN.out]; exact hlt)
          have hsm : sameF (ys[k]'(by rw [HYL.out]; exact hlt)) (xs[k]'(by rw [HN.out]; exact hlt)) = true := sameF_fct (by
            have e := congrArg (fun l : List Fct => l[k]?) HY5.out
            rw [List.getElem?_map, List.getElem?_map, List.getElem?_eq_getElem (by rw [HYL.out]; exact hlt), List.getElem?_eq_getElem (by rw [HN.out]; exact hlt)] at e
            simpa using e)
          have hz1 := HZ5.out _ (List.getElem_mem (show k < ys.length by rw [HYL.out]; exact hlt))
          have hz0 := HSZ.out _ (List.getElem_mem (show k < xs.length by rw [HN.out]; exact hlt))
          generalize (ys[k]'(by rw [HYL.out]; exact hlt)) = q at *
          generalize (xs[k]'(by rw [HN.out]; exact hlt)) = p at *
          have HSM := Lib.hid (fun W (hW : Ext wr W) => by
            have k := SameF_at q p W (hin5.ext hW) (hin0.ext hW) hz1 hz0
            rw [hsm] at k
            unfold FV.val at k
            exact k)
          have HQ := Lib.hid h5; have HP := Lib.hid h0
          clear hin5 hin0 hsm hz1 hz0 h5 h0
          go_upto_region 11 with fail
          refine wp_region_ext (fun i v' w' => match i with | 8 => v' = .bool true | _ => False) (by kernel_rfl) (by kernel_rfl) ?_
          refine wpE_op rfl rfl (fun w' hw' K' hK' => ?_)
          have hE := hw'.1
          go_step
          refine hK' _ ⟨_, rfl⟩ ?_
          clear hK' K' hE hw' w'
          refine wpE_op rfl rfl (fun w' hw' K' hK' => ?_)
          have hE := hw'.1
          go_step
          refine hK' _ ⟨_, rfl⟩ ?_
          clear hK' K' hE hw' w'
          refine wpE_op rfl rfl (fun w' hw' K' hK' => ?_)
          have hE := hw'.1
          go_step
          refine hK' _ ⟨_, rfl⟩ ?_
          clear hK' K' hE hw' w'
          refine wpE_op rfl rfl (fun w' hw' K' hK' => ?_)
          have hE := hw'.1
          obtain ⟨u0, u1, u2, u3, u4, u5, u6, u7, u8, u9, u10, u11⟩ := (HQ.out.ext ((Ext.drew wr).trans hE)).cells
          go_step
          refine hK' _ ⟨_, rfl⟩ ?_
          clear hK' K' u0 u1 u2 u3 u4 u5 u6 u7 u8 u9 u10 u11 hE hw' w'
          refine wpE_op rfl rfl (fun w' hw' K' hK' => ?_)
          have hE := hw'.1
          go_step
          refine hK' _ ⟨_, rfl⟩ ?_
          clear hK' K' hE hw' w'
          refine wpE_op rfl rfl (fun w' hw' K' hK' => ?_)
          have hE := hw'.1
          go_step
          refine hK' _ ⟨_, rfl⟩ ?_
          clear hK' K' hE hw' w'
          refine wpE_op rfl rfl (fun w' hw' K' hK' => ?_)
          have hE := hw'.1
          go_step
          refine hK' _ ⟨_, rfl⟩ ?_
          clear hK' K' hE hw' w'
          refine wpE_op rfl rfl (fun w' hw' K' hK' => ?_)
          have hE := hw'.1
          obtain ⟨u0, u1, u2, u3, u4, u5, u6, u7, u8, u9, u10, u11⟩ := (HP.out.ext ((Ext.drew wr).trans hE)).cells
          go_step
          refine hK' _ ⟨_, rfl⟩ ?_
          clear hK' K' u0 u1 u2 u3 u4 u5 u6 u7 u8 u9 u10 u11 hE hw' w'
          refine wpE_call 104 rfl (by simp) rfl (fun w' hw' K' hK' => ?_) ?_
          · have hE := hw'.1
            go_step
            refine (HSM.out w' ((Ext.drew _).trans hE)).mono ?_
            rintro _ w2 ⟨rfl, hx⟩
            exact hK' _ _ ⟨_, rfl, rfl⟩ hx
          rintro _ w6 _ rfl
          simp only [Act.put, List.setIfInBounds_toArray, List.set_cons_succ, List.set_cons_zero]
          refine wpE_op rfl rfl (fun w' hw' K' hK' => ?_)
          have hE := hw'.1
          go_step
          refine hK' _ ⟨_, rfl⟩ ?_
          clear hK' K' hE hw' w'
          refine wpE_nil (fun W hW => ?_)
          have HXW := Lib.hid (HX.out.trans ((Ext.drew _).trans hW.1))
          clear hW
          go_wp2_with fail
          go_roundw
          case rel => exact ⟨k + 1, by omega, by go_num, HXW⟩
          case measure => simp [intOf]; omega
        · have HXR := Lib.hid (HX3.out.trans HX.out)
          go_wp2_with fail
          go_meet
          case rel => exact HXR
  case rest =>
  obtain ⟨w3, rfl⟩ : ∃ wo : World, wo = wc := ⟨_, rfl⟩
  have HX3 := hcut
  clear hcut HPB HEV HX2
  -- ParseLog, then Log
  have HPS := Lib.hid (fun W (hx : Ext w W) => PLogS_at s P0.out W (HE.out.ext hx))
  go_wp2_with fail
  refine (HPS.out _ HX3.out).mono ?_
  rintro _ w4 ⟨⟨v4, n4, ev4, rfl, hp4⟩, hx4⟩
  have HX4 := Lib.hid (HX3.out.trans hx4); have HP4 := Lib.hid hp4
  clear hx4 hp4 HPS HX3
  go_upto_if 113 with fail
  go_cut [22, 23] (fun _ _ wc => Hid (Ext w wc))
  case first =>
    rcases HP4.out with ⟨rfl, fs, A6, c6, rfl, hF6, hz6, he6⟩ | ⟨rfl, rfl⟩
    · have HLB6 := Lib.hid (LogBack_at s P0.out fs A6 c6 he6 w4 hF6 hz6 (HE.out.ext HX4.out))
      have hss : (s.toList == s.toList) = true := beq_self_eq_true _
      clear hF6 hz6 he6 HP4
      go_wp2_with fail
      refine HLB6.out.mono ?_
      rintro _ w5 ⟨rfl, hx5⟩
      have HX5 := Lib.hid (HX4.out.trans hx5)
      clear hx5
      go_wp2_with fail
      go_meet
      case rel => exact HX5
    · clear HP4
      go_wp2_with fail
      go_meet
      case rel => exact HX4
  case rest =>
  obtain ⟨w5, rfl⟩ : ∃ wo : World, wo = wc := ⟨_, rfl⟩
  have HX5 := hcut
  clear hcut HP4 HX4
  -- Parse, then Text
  have HPS := Lib.hid (fun W (hx : Ext w W) => ParseS_at s P0.out W (HE.out.ext hx))
  unfold FV.val at HPS
  go_wp2_with fail
  refine (HPS.out _ HX5.out).mono ?_
  rintro _ w6 ⟨⟨f, ev6, rfl, hin6, hz6, hp6⟩, hx6⟩
  have HX6 := Lib.hid (HX5.out.trans hx6); have HP6 := Lib.hid hp6; have HI6 := Lib.hid hin6; have HZ6 := Lib.hid hz6
  clear hx6 hp6 HPS HX5 hin6 hz6
  have zZ := heap_alloc_new w6 (.cells #[.int .i64 0, .int .i64 0, .int .i64 0, .int .i64 0, .slice none 0 0, .slice none 0 0, .string ⟨#[]⟩, .slice none 0 0, .string ⟨#[]⟩, .int .i64 0, .int .i64 0, .int .u32 0] 41)
  have xZ := (Ext.refl w6).alloc (.cells #[.int .i64 0, .int .i64 0, .int .i64 0, .int .i64 0, .slice none 0 0, .slice none 0 0, .string ⟨#[]⟩, .slice none 0 0, .string ⟨#[]⟩, .int .i64 0, .int .i64 0, .int .u32 0] 41)
  obtain ⟨WZ, eZ⟩ : ∃ W, w6.alloc (.cells #[.int .i64 0, .int .i64 0, .int .i64 0, .int .i64 0, .slice none 0 0, .slice none 0 0, .string ⟨#[]⟩, .slice none 0 0, .string ⟨#[]⟩, .int .i64 0, .int .i64 0, .int .u32 0] 41) = W := ⟨_, rfl⟩
  rw [eZ] at zZ xZ
  go_upto_if 132 with (first
    | (refine wpList_store_var WZ rfl (.tmp 24) (.tmp 129) 41 rfl w6.heap.size 41 #[.int .i64 0, .int .i64 0, .int .i64 0, .int .i64 0, .slice none 0 0, .slice none 0 0, .string ⟨#[]⟩, .slice none 0 0, .string ⟨#[]⟩, .int .i64 0, .int .i64 0, .int .u32 0] #[.int .i64 f.t, .int .i64 f.mi, .int .i64 f.kd, .int .i64 f.fk, .slice f.FA f.fb.length f.fc, .slice f.CA f.cp.length f.cc, .string f.cr, .slice f.SA f.sp.length f.sc, .string f.sr, .int .i64 f.co, .int .i64 f.pr, .int .u32 (f.fl.toNat : Int)] rfl rfl (Tryz.sizeOf41 WZ) zZ rfl (one8 rfl) ?_; intro WC b3 hg3)
    | fail)
  have x3 : Ext w6 WC := Below.grown xZ hg3 xZ.size (fun j hj => by cases hj; exact Nat.le_refl _)
  have HB7 := Lib.hid (show FQ WC w6.heap.size f from b3)
  have HX7 := Lib.hid (HX6.out.trans x3); have HI7 := Lib.hid (HI6.out.ext x3)
  clear eZ zZ xZ hg3 b3 x3 HX6 HI6
  go_cut [26, 27] (fun _ _ wc => Hid (Ext w wc))
  case first =>
    rcases HP6.out with ⟨rfl, hok6, ht6⟩ | rfl
    · have HT7 := Lib.hid (TextBack_at s f hok6 ht6 WC HI7.out HZ6.out (HE.out.ext HX7.out))
      unfold FV.val at HT7
      have hss : (s.toList == s.toList) = true := beq_self_eq_true _
      obtain ⟨u0, u1, u2, u3, u4, u5, u6, u7, u8, u9, u10, u11⟩ := HB7.out.cells
      clear hok6 ht6 HP6
      go_wp2_with fail
      refine HT7.out.mono ?_
      rintro _ w8 ⟨rfl, hx8⟩
      have HX8 := Lib.hid (HX7.out.trans hx8)
      clear hx8 u0 u1 u2 u3 u4 u5 u6 u7 u8 u9 u10 u11
      go_wp2_with fail
      go_meet
      case rel => exact HX8
    · clear HP6
      go_wp2_with fail
      go_meet
      case rel => exact HX7
  case rest =>
  obtain ⟨w8, rfl⟩ : ∃ wo : World, wo = wc := ⟨_, rfl⟩
  have HX8 := hcut
  clear hcut HP6 HX7 HB7 HI7 HZ6
  -- the alarms of clients
  obtain ⟨oe, hoe⟩ : ∃ z : Int, ordE (xs.map FV.fct) = z := ⟨_, rfl⟩
  obtain ⟨M, hM⟩ : ∃ M : Int, max 0 (wrap64 (win - nar)) = M := ⟨_, rfl⟩
  have HMB := Lib.hid (show 0 ≤ M ∧ M ≤ win by
    have h1 := P1.out; have h2 := HNA.out; have h3 := P2.out
    have h4 : wrap64 (win - nar) = win - nar := IntWalk.wrap64_in _ (by omega)
    rw [← hM, h4]
    omega)
  have HC1 := Lib.hid (fun W (hx : Ext w W) => ClientsS_at A c xs win lim W ((HN.out ▸ HF.out : FS w (.slice A xs.length c) xs).ext hx) (by have := HN.out; omega) HSZ.out (HE.out.ext hx) P1.out P2.out P3.out (by have := P4.out; omega))
  have HC2 := Lib.hid (fun W (hx : Ext w W) => ClientsS_at A c xs M (lim + hig) W ((HN.out ▸ HF.out : FS w (.slice A xs.length c) xs).ext hx) (by have := HN.out; omega) HSZ.out (HE.out.ext hx) HMB.out.1 (by have := HMB.out.2; have := P2.out; omega) (by have := P3.out; have := HHI.out; omega) (by have := P4.out; have := HHI.out; omega))
  have HD1 := Lib.hid (fun W (hx : Ext w W) => AddressesS_at A c xs win lim W ((HN.out ▸ HF.out : FS w (.slice A xs.length c) xs).ext hx) (by have := HN.out; omega) HSZ.out HWF.out (HE.out.ext hx) P1.out P2.out P3.out (by have := P4.out; omega))
  have HD2 := Lib.hid (fun W (hx : Ext w W) => AddressesS_at A c xs M (lim + hig) W ((HN.out ▸ HF.out : FS w (.slice A xs.length c) xs).ext hx) (by have := HN.out; omega) HSZ.out HWF.out (HE.out.ext hx) HMB.out.1 (by have := HMB.out.2; have := P2.out; omega) (by have := P3.out; have := HHI.out; omega) (by have := P4.out; have := HHI.out; omega))
  rw [hoe, HN.out] at HC1 HC2 HD1 HD2
  clear hoe
  have hna0 := HNA.out.1; have hna1 := HNA.out.2; have hhi0 := HHI.out.1; have hhi1 := HHI.out.2
  go_wp2_with fail
  refine (HC1.out _ HX8.out).mono ?_
  rintro _ w9 ⟨⟨ma, A9, c9, rfl, hr9, hm9⟩, hx9⟩
  have HX9 := Lib.hid (HX8.out.trans hx9); have HR9 := Lib.hid hr9; have HM9 := Lib.hid hm9
  clear hx9 hr9 hm9 HX8 HC1
  go_wp2_with fail
  refine (HC2.out _ HX9.out).mono ?_
  rintro _ w10 ⟨⟨mb, A10, c10, rfl, hr10, hm10⟩, hx10⟩
  have HX10 := Lib.hid (HX9.out.trans hx10); have HRA := Lib.hid (HR9.out.ext hx10); have HRB := Lib.hid hr10
  have hlen := almS_len HMB.out.2 (show lim ≤ lim + hig by omega) HM9.out hm10
  have HSA := Lib.hid (fun (k : Nat) (hk : k < mb.length) => almS_found HMB.out.2 (show lim ≤ lim + hig by omega) HM9.out hm10 mb[k] (List.getElem_mem hk))
  have HLA := Lib.hid (alm_ms rfl HSZ.out HM9.out); have HLB := Lib.hid (alm_ms rfl HSZ.out hm10)
  have hlei : ((ma.length : Int) < (mb.length : Int)) = False := eq_false (by omega)
  have hoe : (oe != oe) = false := by simp
  obtain ⟨na, hna⟩ : ∃ k, ma.length = k := ⟨_, rfl⟩
  obtain ⟨nb, hnb⟩ : ∃ k, mb.length = k := ⟨_, rfl⟩
  have HNA2 := Lib.hid hna; have HNB2 := Lib.hid hnb
  have hzA : na ≤ 9223372036854775807 ∧ nb ≤ 9223372036854775807 := by
    obtain ⟨_, c1, e1, g1, g2⟩ := hr10.cells
    obtain ⟨_, c2, e2, g3, g4⟩ := HRA.out.cells
    unfold maxLen at g2 g4
    omega
  have hzA1 := hzA.1; have hzA2 := hzA.2
  rw [hna, hnb] at hlei
  rw [hna] at HRA ⊢
  rw [hnb] at HRB ⊢
  clear hx10 hr10 hm10 hlen hna hnb hzA HX9 HC2 HR9 HM9
  go_wp2_with fail
  clear hlei hoe
  go_loopw [32, 33, 34] (fun i _ _ wr => ∃ k : Nat, k ≤ nb ∧ i = .int .i64 k ∧ Hid (Ext w10 wr)) (fun i _ _ _ => nb - (intOf i).toNat)
  case atStart => exact ⟨0, Nat.zero_le _, rfl, Lib.hid (Ext.refl w10)⟩
  case round =>
    obtain ⟨k, hk, rfl, HXo⟩ := hrel
    obtain ⟨wo, rfl⟩ : ∃ wo : World, wo = wr := ⟨_, rfl⟩
    by_cases hlt : k < nb
    · have HSK := Lib.hid (HSA.out k (by rw [HNB2.out]; exact hlt))
      have HLK := Lib.hid (HLB.out _ (List.getElem_mem (show k < mb.length by rw [HNB2.out]; exact hlt)))
      have HMK := Lib.hid (fun W (hx : Ext w10 W) => (HRB.out.ext hx).m2 k (by rw [HNB2.out]; exact hlt))
      generalize (mb[k]'(by rw [HNB2.out]; exact hlt)) = p at *
      go_wp2_with fail
      go_loopw [33, 34] (fun fd i wr => ∃ (j : Nat) (f : Bool), j ≤ na ∧ i = .int .i64 j ∧ fd = .bool f ∧ Hid ((ma.take j).any (fun a => sameA a.cl p.cl) = f) ∧ Hid (Ext w10 wr)) (fun _ i _ => na - (intOf i).toNat)
      case atStart => exact ⟨0, false, Nat.zero_le _, rfl, rfl, Lib.hid rfl, HXo⟩
      case round =>
        obtain ⟨j, f, hj, rfl, rfl, HFD, HX⟩ := hrel
        by_cases hjl : j < na
        · have hjm : j < ma.length := by rw [HNA2.out]; exact hjl
          have HT := Lib.hid (show (ma.take (j + 1)).any (fun a => sameA a.cl p.cl) = (f || sameA ma[j].cl p.cl) by
            rw [List.take_succ_eq_append_getElem hjm, List.any_append, HFD.out]; simp)
          cases f with
          | true =>
            go_upto_region 34 with fail
            go_quiet (fail)
            go_wp2_with fail
            go_roundw
            case rel => exact ⟨j + 1, true, by omega, by go_num, rfl, Lib.hid (by rw [HT.out]; rfl), Lib.hid (HX.out.drewN _)⟩
            case measure => simp [intOf]; omega
          | false =>
            obtain ⟨hinA, aA, rfl, hA⟩ := (HRA.out.ext HX.out).m2 j hjm
            obtain ⟨hinB, aB, rfl, hB⟩ := HMK.out _ HX.out
            have hla := HLA.out _ (List.getElem_mem hjm)
            generalize ma[j] = q at *
            obtain ⟨sb, hsb⟩ : ∃ b, sameA q.cl p.cl = b := ⟨_, rfl⟩
            have HSM := SameC_fact q p sb hsb wr hinA hinB hla HLK.out
            have HQ := Lib.hid hA; have HP := Lib.hid hB
            rw [hsb] at HT
            clear hinA hinB hA hB hla hsb
            go_upto_region 34 with fail
            refine wp_region_ext (fun i v' w' => match i with | 14 => v' = .bool sb | _ => False) (by kernel_rfl) (by kernel_rfl) ?_
            refine wpE_op rfl rfl (fun w' hw' K' hK' => ?_)
            have hE := hw'.1
            go_step
            refine hK' _ ⟨_, rfl⟩ ?_
            clear hK' K' hE hw' w'
            refine wpE_op rfl rfl (fun w' hw' K' hK' => ?_)
            have hE := hw'.1
            go_step
            refine hK' _ ⟨_, rfl⟩ ?_
            clear hK' K' hE hw' w'
            refine wpE_op (by kernel_rfl) rfl (fun w' hw' K' hK' => ?_)
            have hE := hw'.1
            go_step
            refine hK' _ ⟨_, rfl⟩ ?_
            clear hK' K' hE hw' w'
            refine wpE_op (by kernel_rfl) rfl (fun w' hw' K' hK' => ?_)
            have hE := hw'.1
            go_step
            refine hK' _ ⟨_, rfl⟩ ?_
            clear hK' K' hE hw' w'
            refine wpE_op (by kernel_rfl) rfl (fun w' hw' K' hK' => ?_)
            have hE := hw'.1
            go_step
            refine hK' _ ⟨_, rfl⟩ ?_
            clear hK' K' hE hw' w'
            refine wpE_op (by kernel_rfl) rfl (fun w' hw' K' hK' => ?_)
            have hE := hw'.1
            go_step
            refine hK' _ ⟨_, rfl⟩ ?_
            clear hK' K' hE hw' w'
            refine wpE_op (by kernel_rfl) rfl (fun w' hw' K' hK' => ?_)
            have hE := hw'.1
            obtain ⟨u0, u1⟩ := (HQ.out.ext ((Ext.drew wr).trans hE)).cells
            go_step
            refine hK' _ ⟨_, rfl⟩ ?_
            clear hK' K' u0 u1 hE hw' w'
            refine wpE_op (by kernel_rfl) rfl (fun w' hw' K' hK' => ?_)
            have hE := hw'.1
            go_step
            refine hK' _ ⟨_, rfl⟩ ?_
            clear hK' K' hE hw' w'
            refine wpE_op (by kernel_rfl) rfl (fun w' hw' K' hK' => ?_)
            have hE := hw'.1
            go_step
            refine hK' _ ⟨_, rfl⟩ ?_
            clear hK' K' hE hw' w'
            refine wpE_op (by kernel_rfl) rfl (fun w' hw' K' hK' => ?_)
            have hE := hw'.1
            go_step
            refine hK' _ ⟨_, rfl⟩ ?_
            clear hK' K' hE hw' w'
            refine wpE_op (by kernel_rfl) rfl (fun w' hw' K' hK' => ?_)
            have hE := hw'.1
            go_step
            refine hK' _ ⟨_, rfl⟩ ?_
            clear hK' K' hE hw' w'
            refine wpE_op (by kernel_rfl) rfl (fun w' hw' K' hK' => ?_)
            have hE := hw'.1
            go_step
            refine hK' _ ⟨_, rfl⟩ ?_
            clear hK' K' hE hw' w'
            refine wpE_op (by kernel_rfl) rfl (fun w' hw' K' hK' => ?_)
            have hE := hw'.1
            obtain ⟨u0, u1⟩ := (HP.out.ext ((Ext.drew wr).trans hE)).cells
            go_step
            refine hK' _ ⟨_, rfl⟩ ?_
            clear hK' K' u0 u1 hE hw' w'
            refine wpE_op (by kernel_rfl) rfl (fun w' hw' K' hK' => ?_)
            have hE := hw'.1
            go_step
            refine hK' _ ⟨_, rfl⟩ ?_
            clear hK' K' hE hw' w'
            refine wpE_call 202 rfl (by simp) (by kernel_rfl) (fun w' hw' K' hK' => ?_) ?_
            · have hE := hw'.1
              go_step
              refine (HSM.out w' ((Ext.drew _).trans hE)).mono ?_
              rintro _ w2 ⟨rfl, hx⟩
              exact hK' _ _ ⟨_, rfl, rfl⟩ hx
            rintro _ w6 _ rfl
            simp only [Act.put, List.setIfInBounds_toArray, List.set_cons_succ, List.set_cons_zero]
            refine wpE_op rfl rfl (fun w' hw' K' hK' => ?_)
            have hE := hw'.1
            go_step
            refine hK' _ ⟨_, rfl⟩ ?_
            clear hK' K' hE hw' w'
            refine wpE_op rfl rfl (fun w' hw' K' hK' => ?_)
            have hE := hw'.1
            go_step
            refine hK' _ ⟨_, rfl⟩ ?_
            clear hK' K' hE hw' w'
            refine wpE_nil (fun W hW => ?_)
            have HXW := Lib.hid (HX.out.trans ((Ext.drew _).trans hW.1))
            clear hW
            go_wp2_with fail
            go_roundw
            case rel => exact ⟨j + 1, sb, by omega, by go_num, rfl, Lib.hid (by rw [HT.out]; rfl), HXW⟩
            case measure => simp [intOf]; omega
        · have hf : f = true := by
            have h := HFD.out
            rw [List.take_of_length_le (by rw [HNA2.out]; omega)] at h
            rw [← h]
            exact HSK.out
          subst hf
          go_wp2_with fail
          go_roundw
          case rel => exact ⟨k + 1, by omega, by go_num, HX⟩
          case measure => simp [intOf]; omega
    · have HX11 := Lib.hid (HX10.out.trans HXo.out)
      go_wp2_with fail
      refine (HD1.out _ HX11.out).mono ?_
      rintro _ w12 ⟨⟨mc, A12, c12, rfl, hr12, hm12⟩, hx12⟩
      have HX12 := Lib.hid (HX11.out.trans hx12); have HM12 := Lib.hid hm12
      clear hx12 hr12 hm12 HX11 HD1
      go_wp2_with fail
      refine (HD2.out _ HX12.out).mono ?_
      rintro _ w13 ⟨⟨md, A13, c13, rfl, hr13, hm13⟩, hx13⟩
      have HX13 := Lib.hid (HX12.out.trans hx13)
      have hlen := almS_len HMB.out.2 (show lim ≤ lim + hig by omega) HM12.out hm13
      have hlei : (md.length : Int) ≤ (mc.length : Int) := by omega
      clear hx13 hr13 hm13 hlen HX12 HD2 HM12 hM
      go_wp2_with fail
      refine (LKnown_at _ (HE.out.ext HX13.out)).mono ?_
      rintro _ wk ⟨rfl, hxk⟩
      have HXK := Lib.hid (HX13.out.trans hxk)
      clear hxk
      go_wp2_with fail
      go_ret
      exact ⟨rfl, HXK.out⟩
end Go.Proofs.YtnjmndofcpnmeaaGreatDoor
