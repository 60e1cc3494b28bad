/-
  The abstract machine, part L: each operation that is compiled is sound; rows of operations in the order of the text. For any program.
-/
import Derived.Test.YtfkhljgifndbpaaDoorAmK
namespace Go.Am

section
variable {P : Program} {prot : Nat → Prop} {B w : World} {ι : Inj} {H : Heap} {env : Env} {a : Act} {K : Value → Heap → Prop}

theorem opK_sound (hs : HSim prot B w ι H) (he : EnvOk (tags H) ι env a.tmps) {o : Oper} (h : opK (compOp P o) env H K) : RunOut prot B ι H ((execOp a.eval o).run P w) K := by
  unfold compOp at h
  split at h
  · rename_i x hx; exact sound_mov hs he h (.inl hx)
  · rename_i x hx; exact sound_mov hs he h (.inr hx)
  · rename_i hx; exact sound_pick hs he h hx
  · rename_i hx; split at h
    · rename_i hz; exact sound_alloc hs hz h hx
    · exact h.elim
  · rename_i hx; exact sound_box hs he h hx
  · rename_i hx; split at h
    · rename_i hz hpl; split at h
      · rename_i hps; exact sound_build hs he hz hpl hps h hx
      · exact h.elim
    · exact h.elim
  · rename_i hx; split at h
    · rename_i hu; split at h
      · rename_i hsz hz; split at h
        · rename_i hc; split at h
          · rename_i hps; exact sound_buildSlice hs he hu hsz hz hc hps h hx
          · exact h.elim
        · exact h.elim
      · exact h.elim
    · exact h.elim
  · rename_i hx; split at h
    · rename_i ha; exact sound_load hs he ha h hx
    · exact h.elim
  · rename_i hx; split at h
    · rename_i ha; exact sound_store hs he ha h hx
    · exact h.elim
  · rename_i hx; exact sound_nilCheck hs he h hx
  · rename_i op xt x y yt hx; split at h
    · exact sound_ibin hs he h hx
    · rename_i hu; exact sound_eqB hs he (neg := false) hu h hx
    · rename_i hu; exact sound_eqB hs he (neg := true) hu h hx
    · rename_i hu; split at h
      · rename_i hc; rw [Bool.and_eq_true, Bool.not_eq_true'] at hc; exact sound_eqA hs he (neg := false) hc.1 hc.2 ⟨_, hu, rfl⟩ h hx
      · exact h.elim
    · rename_i hu; split at h
      · rename_i hc; rw [Bool.and_eq_true, Bool.not_eq_true'] at hc; exact sound_eqA hs he (neg := false) hc.1 hc.2 ⟨_, hu, rfl⟩ h hx
      · exact h.elim
    · rename_i hu; split at h
      · rename_i hc; rw [Bool.and_eq_true, Bool.not_eq_true'] at hc; exact sound_eqA hs he (neg := true) hc.1 hc.2 ⟨_, hu, rfl⟩ h hx
      · exact h.elim
    · rename_i hu; split at h
      · rename_i hc; rw [Bool.and_eq_true, Bool.not_eq_true'] at hc; exact sound_eqA hs he (neg := true) hc.1 hc.2 ⟨_, hu, rfl⟩ h hx
      · exact h.elim
    · rename_i hu; exact sound_eqP hs he (neg := false) hu h hx
    · rename_i hu; exact sound_eqP hs he (neg := true) hu h hx
    · rename_i hu; exact sound_eqS hs he (neg := false) hu h hx
    · rename_i hu; exact sound_eqS hs he (neg := true) hu h hx
    · exact sound_strAdd hs he h hx
    · exact sound_strCmp hs he (neg := false) h hx
    · exact sound_strCmp hs he (neg := true) h hx
    · rename_i hu; split at h
      · rename_i hy; exact sound_isNil hs he (neg := false) hu hy h hx
      · exact h.elim
    · rename_i hu; split at h
      · rename_i hy; exact sound_isNil hs he (neg := true) hu hy h hx
      · exact h.elim
    · exact h.elim
  · rename_i hx; exact sound_un hs he h hx
  · rename_i hx; split at h
    · rename_i h1 h2; exact sound_conv hs he h1 ⟨_, h2⟩ h hx
    · exact h.elim
  · rename_i hx; exact sound_func hs he h hx
  · rename_i hx; split at h
    · rename_i hu; split at h
      · rename_i hi hz; split at h
        · rename_i hc; exact sound_makeSlice hs he hu hi hz hc h hx
        · exact h.elim
      · exact h.elim
    · exact h.elim
  · rename_i hx; split at h
    · rename_i hu; split at h
      · rename_i hsz; split at h
        · exact h.elim
        · rename_i hm; exact sound_slice hs he hu hsz (eq_false_of_ne_true hm) h hx
      · exact h.elim
    · rename_i hu; split at h
      · rename_i hsz; exact sound_sliceA hs he hu hsz h hx
      · exact h.elim
    · exact h.elim
  · rename_i hx; split at h
    · rename_i hu; split at h
      · rename_i hf; split at h
        · rename_i hsz; split at h
          · exact h.elim
          · rename_i h0; exact sound_fieldAddr hs he hu hf hsz h0 h hx
        · exact h.elim
      · exact h.elim
    · exact h.elim
  · rename_i hx; split at h
    · rename_i hu; split at h
      · rename_i hf; split at h
        · rename_i ha; exact sound_field hs he hu hf ha h hx
        · exact h.elim
      · exact h.elim
    · exact h.elim
  · rename_i hx; split at h
    · rename_i hu; split at h
      · rename_i hsz; exact sound_indexAddr hs he hu hsz h hx
      · exact h.elim
    · rename_i hu; split at h
      · rename_i hsz; exact sound_indexArr hs he hu hsz h hx
      · exact h.elim
    · exact h.elim
  · rename_i hx; split at h
    · rename_i hu; exact sound_indexStr hs he hu h hx
    · rename_i hu; split at h
      · rename_i hsz ha; exact sound_index hs he hu hsz ha h hx
      · exact h.elim
    · exact h.elim
  · rename_i hx; exact sound_extract hs he h hx
  · rename_i hx; exact sound_makeMap hs h hx
  · rename_i hx; split at h
    · rename_i hm; split at h
      · rename_i hz; exact sound_lookup hs he hm hz h hx
      · exact h.elim
    · exact h.elim
  · rename_i hx; split at h
    · rename_i hm; exact sound_mapUpdate hs he hm h hx
    · exact h.elim
  · rename_i hx; split at h
    · rename_i hm; split at h
      · rename_i hz; exact sound_mapEntry hs he hm hz h hx
      · exact h.elim
    · exact h.elim
  · rename_i hx; split at h
    · rename_i hm; exact sound_entryStore hs he hm h hx
    · exact h.elim
  · rename_i hx; split at h
    · rename_i hm; exact sound_rangeMap hs he hm h hx
    · exact h.elim
  · rename_i hx; exact sound_nextMap hs he h hx
  · rename_i hx; exact sound_entryAt hs he h hx
  · rename_i c hx
    unfold compCall at h
    split at h
    · rename_i b hc
      split at h
      · rename_i ha hat; split at h
        · rename_i hu; exact sound_len hs he hu h hx hc ha hat
        · rename_i hu; exact sound_lenMap hs he hu h hx hc ha hat
        · rename_i hu; exact sound_strLen hs he hu h hx hc ha hat
        · exact h.elim
      · rename_i ha hat; split at h
        · rename_i hm; exact sound_mapDelete hs he hm h hx hc ha hat
        · exact h.elim
      · rename_i ha hat; split at h
        · rename_i hu hu'; split at h
          · rename_i hi hz; split at h
            · rename_i hcc; obtain ⟨rfl, hcc⟩ := hcc; exact sound_append hs he hu hi hz hcc h hx hc ha hat
            · exact h.elim
          · exact h.elim
        · rename_i hu hu'; split at h
          · rename_i hi hz; split at h
            · rename_i hcc; exact sound_appendZ hs he hu hu' hi hz hcc h hx hc ha hat
            · exact h.elim
          · exact h.elim
        · exact h.elim
      · rename_i ha hat; split at h
        · rename_i hu hu'; split at h
          · rename_i hsz; exact sound_copy hs he hu hsz h hx hc ha hat
          · exact h.elim
        · exact h.elim
      · rename_i ha hat; split at h
        · rename_i hu; split at h
          · rename_i hi hz; split at h
            · rename_i hcc; exact sound_clear hs he hu hi hz hcc h hx hc ha hat
            · exact h.elim
          · exact h.elim
        · exact h.elim
      · rename_i ha hat; split at h
        · rename_i hu; exact sound_cap hs he hu h hx hc ha hat
        · exact h.elim
      · exact sound_minmax hs he (max := true) h hx hc
      · exact sound_minmax hs he (max := false) h hx hc
      · exact h.elim
    · rename_i f hc
      split at h
      · rename_i hf ha; exact sound_carry hs he h hx hc hf ha
      · exact h.elim
    · exact h.elim
    · exact h.elim
  · exact h.elim

end
end Go.Am
