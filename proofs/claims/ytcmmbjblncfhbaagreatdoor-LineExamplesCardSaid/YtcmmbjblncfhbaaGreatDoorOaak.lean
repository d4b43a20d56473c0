/- Own lemmas, used by the last text. Conditions: those that each theorem states. -/
import Derived.Test.YtcmmbjblncfhbaaGreatDoorOaaj
import Derived.Test.YtcmmbjblncfhbaaGreatDoorProg
set_option maxRecDepth 200000
set_option maxHeartbeats 8000000
namespace Go.Proofs.Tryz
open Go.Psl
abbrev p3l0 : PC := (⟨_, by conv => lhs; reduce⟩ : Rd (K f3 0 [])).1
abbrev p3 : PC := (⟨_, by conv => lhs; reduce⟩ : Rd (fun a => G f3 [a])).1 p3l0
theorem c3 : f3.body.bind (comp f3.ntmps) = some p3 := by kernel_rfl
abbrev p4 : PC := (⟨_, by conv => lhs; reduce⟩ : Rd (G f4 [])).1
theorem c4 : f4.body.bind (comp f4.ntmps) = some p4 := by kernel_rfl
abbrev p5 : PC := (⟨_, by conv => lhs; reduce⟩ : Rd (G f5 [])).1
theorem c5 : f5.body.bind (comp f5.ntmps) = some p5 := by kernel_rfl
abbrev p6 : PC := (⟨_, by conv => lhs; reduce⟩ : Rd (G f6 [])).1
theorem c6 : f6.body.bind (comp f6.ntmps) = some p6 := by kernel_rfl
abbrev p7 : PC := (⟨_, by conv => lhs; reduce⟩ : Rd (G f7 [])).1
theorem c7 : f7.body.bind (comp f7.ntmps) = some p7 := by kernel_rfl
abbrev p8 : PC := (⟨_, by conv => lhs; reduce⟩ : Rd (G f8 [])).1
theorem c8 : f8.body.bind (comp f8.ntmps) = some p8 := by kernel_rfl
abbrev p9l0 : PC := (⟨_, by conv => lhs; reduce⟩ : Rd (K f9 0 [])).1
abbrev p9 : PC := (⟨_, by conv => lhs; reduce⟩ : Rd (fun a => G f9 [a])).1 p9l0
theorem c9 : f9.body.bind (comp f9.ntmps) = some p9 := by kernel_rfl
abbrev p10 : PC := (⟨_, by conv => lhs; reduce⟩ : Rd (G f10 [])).1
theorem c10 : f10.body.bind (comp f10.ntmps) = some p10 := by kernel_rfl
abbrev p11 : PC := (⟨_, by conv => lhs; reduce⟩ : Rd (G f11 [])).1
theorem c11 : f11.body.bind (comp f11.ntmps) = some p11 := by kernel_rfl
abbrev p12l0 : PC := (⟨_, by conv => lhs; reduce⟩ : Rd (K f12 0 [])).1
abbrev p12l1 : PC := (⟨_, by conv => lhs; reduce⟩ : Rd (K f12 1 [])).1
abbrev p12 : PC := (⟨_, by conv => lhs; reduce⟩ : Rd (fun a b => G f12 [a, b])).1 p12l0 p12l1
theorem c12 : f12.body.bind (comp f12.ntmps) = some p12 := by kernel_rfl
abbrev p13 : PC := (⟨_, by conv => lhs; reduce⟩ : Rd (G f13 [])).1
theorem c13 : f13.body.bind (comp f13.ntmps) = some p13 := by kernel_rfl
abbrev p14l0 : PC := (⟨_, by conv => lhs; reduce⟩ : Rd (K f14 0 [])).1
abbrev p14 : PC := (⟨_, by conv => lhs; reduce⟩ : Rd (fun a => G f14 [a])).1 p14l0
theorem c14 : f14.body.bind (comp f14.ntmps) = some p14 := by kernel_rfl
abbrev p15 : PC := (⟨_, by conv => lhs; reduce⟩ : Rd (G f15 [])).1
theorem c15 : f15.body.bind (comp f15.ntmps) = some p15 := by kernel_rfl
abbrev p16 : PC := (⟨_, by conv => lhs; reduce⟩ : Rd (G f16 [])).1
theorem c16 : f16.body.bind (comp f16.ntmps) = some p16 := by kernel_rfl
abbrev p17l0 : PC := (⟨_, by conv => lhs; reduce⟩ : Rd (K f17 0 [])).1
abbrev p17l1 : PC := (⟨_, by conv => lhs; reduce⟩ : Rd (K f17 1 [])).1
abbrev p17 : PC := (⟨_, by conv => lhs; reduce⟩ : Rd (fun a b => G f17 [a, b])).1 p17l0 p17l1
theorem c17 : f17.body.bind (comp f17.ntmps) = some p17 := by kernel_rfl
abbrev p18l0 : PC := (⟨_, by conv => lhs; reduce⟩ : Rd (K f18 0 [])).1
abbrev p18 : PC := (⟨_, by conv => lhs; reduce⟩ : Rd (fun a => G f18 [a])).1 p18l0
theorem c18 : f18.body.bind (comp f18.ntmps) = some p18 := by kernel_rfl
abbrev p19l0 : PC := (⟨_, by conv => lhs; reduce⟩ : Rd (K f19 0 [])).1
abbrev p19l1 : PC := (⟨_, by conv => lhs; reduce⟩ : Rd (K f19 1 [])).1
abbrev p19l2 : PC := (⟨_, by conv => lhs; reduce⟩ : Rd (K f19 2 [])).1
abbrev p19 : PC := (⟨_, by conv => lhs; reduce⟩ : Rd (fun a b c => G f19 [a, b, c])).1 p19l0 p19l1 p19l2
theorem c19 : f19.body.bind (comp f19.ntmps) = some p19 := by kernel_rfl
abbrev p20 : PC := (⟨_, by conv => lhs; reduce⟩ : Rd (G f20 [])).1
theorem c20 : f20.body.bind (comp f20.ntmps) = some p20 := by kernel_rfl
abbrev p21 : PC := (⟨_, by conv => lhs; reduce⟩ : Rd (G f21 [])).1
theorem c21 : f21.body.bind (comp f21.ntmps) = some p21 := by kernel_rfl
abbrev p22 : PC := (⟨_, by conv => lhs; reduce⟩ : Rd (G f22 [])).1
theorem c22 : f22.body.bind (comp f22.ntmps) = some p22 := by kernel_rfl
abbrev p23 : PC := (⟨_, by conv => lhs; reduce⟩ : Rd (G f23 [])).1
theorem c23 : f23.body.bind (comp f23.ntmps) = some p23 := by kernel_rfl
abbrev p24 : PC := (⟨_, by conv => lhs; reduce⟩ : Rd (G f24 [])).1
theorem c24 : f24.body.bind (comp f24.ntmps) = some p24 := by kernel_rfl
abbrev p25l0 : PC := (⟨_, by conv => lhs; reduce⟩ : Rd (K f25 0 [])).1
abbrev p25 : PC := (⟨_, by conv => lhs; reduce⟩ : Rd (fun a => G f25 [a])).1 p25l0
theorem c25 : f25.body.bind (comp f25.ntmps) = some p25 := by kernel_rfl
abbrev p26 : PC := (⟨_, by conv => lhs; reduce⟩ : Rd (G f26 [])).1
theorem c26 : f26.body.bind (comp f26.ntmps) = some p26 := by kernel_rfl
abbrev p27l0 : PC := (⟨_, by conv => lhs; reduce⟩ : Rd (K f27 0 [])).1
abbrev p27 : PC := (⟨_, by conv => lhs; reduce⟩ : Rd (fun a => G f27 [a])).1 p27l0
theorem c27 : f27.body.bind (comp f27.ntmps) = some p27 := by kernel_rfl
abbrev p28 : PC := (⟨_, by conv => lhs; reduce⟩ : Rd (G f28 [])).1
theorem c28 : f28.body.bind (comp f28.ntmps) = some p28 := by kernel_rfl
abbrev p29 : PC := (⟨_, by conv => lhs; reduce⟩ : Rd (G f29 [])).1
theorem c29 : f29.body.bind (comp f29.ntmps) = some p29 := by kernel_rfl
abbrev p30l0 : PC := (⟨_, by conv => lhs; reduce⟩ : Rd (K f30 0 [])).1
abbrev p30 : PC := (⟨_, by conv => lhs; reduce⟩ : Rd (fun a => G f30 [a])).1 p30l0
theorem c30 : f30.body.bind (comp f30.ntmps) = some p30 := by kernel_rfl
abbrev p31 : PC := (⟨_, by conv => lhs; reduce⟩ : Rd (G f31 [])).1
theorem c31 : f31.body.bind (comp f31.ntmps) = some p31 := by kernel_rfl
abbrev p32l0 : PC := (⟨_, by conv => lhs; reduce⟩ : Rd (K f32 0 [])).1
abbrev p32l1 : PC := (⟨_, by conv => lhs; reduce⟩ : Rd (K f32 1 [])).1
abbrev p32 : PC := (⟨_, by conv => lhs; reduce⟩ : Rd (fun a b => G f32 [a, b])).1 p32l0 p32l1
theorem c32 : f32.body.bind (comp f32.ntmps) = some p32 := by kernel_rfl
abbrev p33 : PC := (⟨_, by conv => lhs; reduce⟩ : Rd (G f33 [])).1
theorem c33 : f33.body.bind (comp f33.ntmps) = some p33 := by kernel_rfl
abbrev p34l0 : PC := (⟨_, by conv => lhs; reduce⟩ : Rd (K f34 0 [])).1
abbrev p34 : PC := (⟨_, by conv => lhs; reduce⟩ : Rd (fun a => G f34 [a])).1 p34l0
theorem c34 : f34.body.bind (comp f34.ntmps) = some p34 := by kernel_rfl
abbrev p35 : PC := (⟨_, by conv => lhs; reduce⟩ : Rd (G f35 [])).1
theorem c35 : f35.body.bind (comp f35.ntmps) = some p35 := by kernel_rfl
abbrev p36l0 : PC := (⟨_, by conv => lhs; reduce⟩ : Rd (K f36 0 [])).1
abbrev p36l1 : PC := (⟨_, by conv => lhs; reduce⟩ : Rd (K f36 1 [])).1
abbrev p36 : PC := (⟨_, by conv => lhs; reduce⟩ : Rd (fun a b => G f36 [a, b])).1 p36l0 p36l1
theorem c36 : f36.body.bind (comp f36.ntmps) = some p36 := by kernel_rfl
abbrev p37l0 : PC := (⟨_, by conv => lhs; reduce⟩ : Rd (K f37 0 [])).1
abbrev p37 : PC := (⟨_, by conv => lhs; reduce⟩ : Rd (fun a => G f37 [a])).1 p37l0
theorem c37 : f37.body.bind (comp f37.ntmps) = some p37 := by kernel_rfl
abbrev p38 : PC := (⟨_, by conv => lhs; reduce⟩ : Rd (G f38 [])).1
theorem c38 : f38.body.bind (comp f38.ntmps) = some p38 := by kernel_rfl
abbrev p39 : PC := (⟨_, by conv => lhs; reduce⟩ : Rd (G f39 [])).1
theorem c39 : f39.body.bind (comp f39.ntmps) = some p39 := by kernel_rfl
abbrev p40 : PC := (⟨_, by conv => lhs; reduce⟩ : Rd (G f40 [])).1
theorem c40 : f40.body.bind (comp f40.ntmps) = some p40 := by kernel_rfl
abbrev p41 : PC := (⟨_, by conv => lhs; reduce⟩ : Rd (G f41 [])).1
theorem c41 : f41.body.bind (comp f41.ntmps) = some p41 := by kernel_rfl
abbrev p42 : PC := (⟨_, by conv => lhs; reduce⟩ : Rd (G f42 [])).1
theorem c42 : f42.body.bind (comp f42.ntmps) = some p42 := by kernel_rfl
abbrev p43 : PC := (⟨_, by conv => lhs; reduce⟩ : Rd (G f43 [])).1
theorem c43 : f43.body.bind (comp f43.ntmps) = some p43 := by kernel_rfl
abbrev p44 : PC := (⟨_, by conv => lhs; reduce⟩ : Rd (G f44 [])).1
theorem c44 : f44.body.bind (comp f44.ntmps) = some p44 := by kernel_rfl
abbrev p45 : PC := (⟨_, by conv => lhs; reduce⟩ : Rd (G f45 [])).1
theorem c45 : f45.body.bind (comp f45.ntmps) = some p45 := by kernel_rfl
abbrev p46l0 : PC := (⟨_, by conv => lhs; reduce⟩ : Rd (K f46 0 [])).1
abbrev p46 : PC := (⟨_, by conv => lhs; reduce⟩ : Rd (fun a => G f46 [a])).1 p46l0
theorem c46 : f46.body.bind (comp f46.ntmps) = some p46 := by kernel_rfl
abbrev p47l0 : PC := (⟨_, by conv => lhs; reduce⟩ : Rd (K f47 0 [])).1
abbrev p47 : PC := (⟨_, by conv => lhs; reduce⟩ : Rd (fun a => G f47 [a])).1 p47l0
theorem c47 : f47.body.bind (comp f47.ntmps) = some p47 := by kernel_rfl
abbrev p48l0 : PC := (⟨_, by conv => lhs; reduce⟩ : Rd (K f48 0 [])).1
abbrev p48 : PC := (⟨_, by conv => lhs; reduce⟩ : Rd (fun a => G f48 [a])).1 p48l0
theorem c48 : f48.body.bind (comp f48.ntmps) = some p48 := by kernel_rfl
abbrev p49 : PC := (⟨_, by conv => lhs; reduce⟩ : Rd (G f49 [])).1
theorem c49 : f49.body.bind (comp f49.ntmps) = some p49 := by kernel_rfl
abbrev p50l0 : PC := (⟨_, by conv => lhs; reduce⟩ : Rd (K f50 0 [])).1
abbrev p50 : PC := (⟨_, by conv => lhs; reduce⟩ : Rd (fun a => G f50 [a])).1 p50l0
theorem c50 : f50.body.bind (comp f50.ntmps) = some p50 := by kernel_rfl
abbrev p51 : PC := (⟨_, by conv => lhs; reduce⟩ : Rd (G f51 [])).1
theorem c51 : f51.body.bind (comp f51.ntmps) = some p51 := by kernel_rfl
abbrev p52 : PC := (⟨_, by conv => lhs; reduce⟩ : Rd (G f52 [])).1
theorem c52 : f52.body.bind (comp f52.ntmps) = some p52 := by kernel_rfl
abbrev p53 : PC := (⟨_, by conv => lhs; reduce⟩ : Rd (G f53 [])).1
theorem c53 : f53.body.bind (comp f53.ntmps) = some p53 := by kernel_rfl
abbrev p54l0 : PC := (⟨_, by conv => lhs; reduce⟩ : Rd (K f54 0 [])).1
abbrev p54l1 : PC := (⟨_, by conv => lhs; reduce⟩ : Rd (fun a => K f54 1 [a])).1 p54l0
abbrev p54 : PC := (⟨_, by conv => lhs; reduce⟩ : Rd (fun a => G f54 [a])).1 p54l1
theorem c54 : f54.body.bind (comp f54.ntmps) = some p54 := by kernel_rfl
abbrev p55 : PC := (⟨_, by conv => lhs; reduce⟩ : Rd (G f55 [])).1
theorem c55 : f55.body.bind (comp f55.ntmps) = some p55 := by kernel_rfl
abbrev p56 : PC := (⟨_, by conv => lhs; reduce⟩ : Rd (G f56 [])).1
theorem c56 : f56.body.bind (comp f56.ntmps) = some p56 := by kernel_rfl
abbrev p57 : PC := (⟨_, by conv => lhs; reduce⟩ : Rd (G f57 [])).1
theorem c57 : f57.body.bind (comp f57.ntmps) = some p57 := by kernel_rfl
abbrev p58l0 : PC := (⟨_, by conv => lhs; reduce⟩ : Rd (K f58 0 [])).1
abbrev p58 : PC := (⟨_, by conv => lhs; reduce⟩ : Rd (fun a => G f58 [a])).1 p58l0
theorem c58 : f58.body.bind (comp f58.ntmps) = some p58 := by kernel_rfl
abbrev p59 : PC := (⟨_, by conv => lhs; reduce⟩ : Rd (G f59 [])).1
theorem c59 : f59.body.bind (comp f59.ntmps) = some p59 := by kernel_rfl
abbrev p60 : PC := (⟨_, by conv => lhs; reduce⟩ : Rd (G f60 [])).1
theorem c60 : f60.body.bind (comp f60.ntmps) = some p60 := by kernel_rfl
abbrev p61l0 : PC := (⟨_, by conv => lhs; reduce⟩ : Rd (K f61 0 [])).1
abbrev p61 : PC := (⟨_, by conv => lhs; reduce⟩ : Rd (fun a => G f61 [a])).1 p61l0
theorem c61 : f61.body.bind (comp f61.ntmps) = some p61 := by kernel_rfl
abbrev p62l0 : PC := (⟨_, by conv => lhs; reduce⟩ : Rd (K f62 0 [])).1
abbrev p62 : PC := (⟨_, by conv => lhs; reduce⟩ : Rd (fun a => G f62 [a])).1 p62l0
theorem c62 : f62.body.bind (comp f62.ntmps) = some p62 := by kernel_rfl
abbrev p63l0 : PC := (⟨_, by conv => lhs; reduce⟩ : Rd (K f63 0 [])).1
abbrev p63 : PC := (⟨_, by conv => lhs; reduce⟩ : Rd (fun a => G f63 [a])).1 p63l0
theorem c63 : f63.body.bind (comp f63.ntmps) = some p63 := by kernel_rfl
abbrev p64l0 : PC := (⟨_, by conv => lhs; reduce⟩ : Rd (K f64 0 [])).1
abbrev p64 : PC := (⟨_, by conv => lhs; reduce⟩ : Rd (fun a => G f64 [a])).1 p64l0
theorem c64 : f64.body.bind (comp f64.ntmps) = some p64 := by kernel_rfl
abbrev p65 : PC := (⟨_, by conv => lhs; reduce⟩ : Rd (G f65 [])).1
theorem c65 : f65.body.bind (comp f65.ntmps) = some p65 := by kernel_rfl
abbrev p66l0 : PC := (⟨_, by conv => lhs; reduce⟩ : Rd (K f66 0 [])).1
abbrev p66l1 : PC := (⟨_, by conv => lhs; reduce⟩ : Rd (K f66 1 [])).1
abbrev p66l2 : PC := (⟨_, by conv => lhs; reduce⟩ : Rd (K f66 2 [])).1
abbrev p66 : PC := (⟨_, by conv => lhs; reduce⟩ : Rd (fun a b c => G f66 [a, b, c])).1 p66l0 p66l1 p66l2
theorem c66 : f66.body.bind (comp f66.ntmps) = some p66 := by kernel_rfl
abbrev p67 : PC := (⟨_, by conv => lhs; reduce⟩ : Rd (G f67 [])).1
theorem c67 : f67.body.bind (comp f67.ntmps) = some p67 := by kernel_rfl
abbrev p68 : PC := (⟨_, by conv => lhs; reduce⟩ : Rd (G f68 [])).1
theorem c68 : f68.body.bind (comp f68.ntmps) = some p68 := by kernel_rfl
abbrev p69 : PC := (⟨_, by conv => lhs; reduce⟩ : Rd (G f69 [])).1
theorem c69 : f69.body.bind (comp f69.ntmps) = some p69 := by kernel_rfl
abbrev p70 : PC := (⟨_, by conv => lhs; reduce⟩ : Rd (G f70 [])).1
theorem c70 : f70.body.bind (comp f70.ntmps) = some p70 := by kernel_rfl
abbrev p71 : PC := (⟨_, by conv => lhs; reduce⟩ : Rd (G f71 [])).1
theorem c71 : f71.body.bind (comp f71.ntmps) = some p71 := by kernel_rfl
abbrev p72 : PC := (⟨_, by conv => lhs; reduce⟩ : Rd (G f72 [])).1
theorem c72 : f72.body.bind (comp f72.ntmps) = some p72 := by kernel_rfl
abbrev p73 : PC := (⟨_, by conv => lhs; reduce⟩ : Rd (G f73 [])).1
theorem c73 : f73.body.bind (comp f73.ntmps) = some p73 := by kernel_rfl
abbrev p74 : PC := (⟨_, by conv => lhs; reduce⟩ : Rd (G f74 [])).1
theorem c74 : f74.body.bind (comp f74.ntmps) = some p74 := by kernel_rfl
abbrev p75 : PC := (⟨_, by conv => lhs; reduce⟩ : Rd (G f75 [])).1
theorem c75 : f75.body.bind (comp f75.ntmps) = some p75 := by kernel_rfl
abbrev p76 : PC := (⟨_, by conv => lhs; reduce⟩ : Rd (G f76 [])).1
theorem c76 : f76.body.bind (comp f76.ntmps) = some p76 := by kernel_rfl
abbrev p77 : PC := (⟨_, by conv => lhs; reduce⟩ : Rd (G f77 [])).1
theorem c77 : f77.body.bind (comp f77.ntmps) = some p77 := by kernel_rfl
abbrev p78 : PC := (⟨_, by conv => lhs; reduce⟩ : Rd (G f78 [])).1
theorem c78 : f78.body.bind (comp f78.ntmps) = some p78 := by kernel_rfl
abbrev p79 : PC := (⟨_, by conv => lhs; reduce⟩ : Rd (G f79 [])).1
theorem c79 : f79.body.bind (comp f79.ntmps) = some p79 := by kernel_rfl
abbrev p80 : PC := (⟨_, by conv => lhs; reduce⟩ : Rd (G f80 [])).1
theorem c80 : f80.body.bind (comp f80.ntmps) = some p80 := by kernel_rfl
abbrev p81 : PC := (⟨_, by conv => lhs; reduce⟩ : Rd (G f81 [])).1
theorem c81 : f81.body.bind (comp f81.ntmps) = some p81 := by kernel_rfl
abbrev p82 : PC := (⟨_, by conv => lhs; reduce⟩ : Rd (G f82 [])).1
theorem c82 : f82.body.bind (comp f82.ntmps) = some p82 := by kernel_rfl
abbrev p83 : PC := (⟨_, by conv => lhs; reduce⟩ : Rd (G f83 [])).1
theorem c83 : f83.body.bind (comp f83.ntmps) = some p83 := by kernel_rfl
abbrev p84 : PC := (⟨_, by conv => lhs; reduce⟩ : Rd (G f84 [])).1
theorem c84 : f84.body.bind (comp f84.ntmps) = some p84 := by kernel_rfl
abbrev p85 : PC := (⟨_, by conv => lhs; reduce⟩ : Rd (G f85 [])).1
theorem c85 : f85.body.bind (comp f85.ntmps) = some p85 := by kernel_rfl
abbrev p86 : PC := (⟨_, by conv => lhs; reduce⟩ : Rd (G f86 [])).1
theorem c86 : f86.body.bind (comp f86.ntmps) = some p86 := by kernel_rfl
abbrev p87 : PC := (⟨_, by conv => lhs; reduce⟩ : Rd (G f87 [])).1
theorem c87 : f87.body.bind (comp f87.ntmps) = some p87 := by kernel_rfl
abbrev p88 : PC := (⟨_, by conv => lhs; reduce⟩ : Rd (G f88 [])).1
theorem c88 : f88.body.bind (comp f88.ntmps) = some p88 := by kernel_rfl
abbrev p89 : PC := (⟨_, by conv => lhs; reduce⟩ : Rd (G f89 [])).1
theorem c89 : f89.body.bind (comp f89.ntmps) = some p89 := by kernel_rfl
abbrev p90 : PC := (⟨_, by conv => lhs; reduce⟩ : Rd (G f90 [])).1
theorem c90 : f90.body.bind (comp f90.ntmps) = some p90 := by kernel_rfl
abbrev p91 : PC := (⟨_, by conv => lhs; reduce⟩ : Rd (G f91 [])).1
theorem c91 : f91.body.bind (comp f91.ntmps) = some p91 := by kernel_rfl
abbrev p92 : PC := (⟨_, by conv => lhs; reduce⟩ : Rd (G f92 [])).1
theorem c92 : f92.body.bind (comp f92.ntmps) = some p92 := by kernel_rfl
abbrev p93 : PC := (⟨_, by conv => lhs; reduce⟩ : Rd (G f93 [])).1
theorem c93 : f93.body.bind (comp f93.ntmps) = some p93 := by kernel_rfl
abbrev p94 : PC := (⟨_, by conv => lhs; reduce⟩ : Rd (G f94 [])).1
theorem c94 : f94.body.bind (comp f94.ntmps) = some p94 := by kernel_rfl
abbrev p95 : PC := (⟨_, by conv => lhs; reduce⟩ : Rd (G f95 [])).1
theorem c95 : f95.body.bind (comp f95.ntmps) = some p95 := by kernel_rfl
abbrev p96 : PC := (⟨_, by conv => lhs; reduce⟩ : Rd (G f96 [])).1
theorem c96 : f96.body.bind (comp f96.ntmps) = some p96 := by kernel_rfl
abbrev p97 : PC := (⟨_, by conv => lhs; reduce⟩ : Rd (G f97 [])).1
theorem c97 : f97.body.bind (comp f97.ntmps) = some p97 := by kernel_rfl
abbrev p98l0 : PC := (⟨_, by conv => lhs; reduce⟩ : Rd (K f98 0 [])).1
abbrev p98 : PC := (⟨_, by conv => lhs; reduce⟩ : Rd (fun a => G f98 [a])).1 p98l0
theorem c98 : f98.body.bind (comp f98.ntmps) = some p98 := by kernel_rfl
abbrev p100 : PC := (⟨_, by conv => lhs; reduce⟩ : Rd (G f100 [])).1
theorem c100 : f100.body.bind (comp f100.ntmps) = some p100 := by kernel_rfl
abbrev p101 : PC := (⟨_, by conv => lhs; reduce⟩ : Rd (G f101 [])).1
theorem c101 : f101.body.bind (comp f101.ntmps) = some p101 := by kernel_rfl
abbrev p102l0 : PC := (⟨_, by conv => lhs; reduce⟩ : Rd (K f102 0 [])).1
abbrev p102l1 : PC := (⟨_, by conv => lhs; reduce⟩ : Rd (K f102 1 [])).1
abbrev p102 : PC := (⟨_, by conv => lhs; reduce⟩ : Rd (fun a b => G f102 [a, b])).1 p102l0 p102l1
theorem c102 : f102.body.bind (comp f102.ntmps) = some p102 := by kernel_rfl
abbrev p103 : PC := (⟨_, by conv => lhs; reduce⟩ : Rd (G f103 [])).1
theorem c103 : f103.body.bind (comp f103.ntmps) = some p103 := by kernel_rfl
abbrev p104l0 : PC := (⟨_, by conv => lhs; reduce⟩ : Rd (K f104 0 [])).1
abbrev p104 : PC := (⟨_, by conv => lhs; reduce⟩ : Rd (fun a => G f104 [a])).1 p104l0
theorem c104 : f104.body.bind (comp f104.ntmps) = some p104 := by kernel_rfl
abbrev p105 : PC := (⟨_, by conv => lhs; reduce⟩ : Rd (G f105 [])).1
theorem c105 : f105.body.bind (comp f105.ntmps) = some p105 := by kernel_rfl
abbrev p106 : PC := (⟨_, by conv => lhs; reduce⟩ : Rd (G f106 [])).1
theorem c106 : f106.body.bind (comp f106.ntmps) = some p106 := by kernel_rfl
abbrev p107 : PC := (⟨_, by conv => lhs; reduce⟩ : Rd (G f107 [])).1
theorem c107 : f107.body.bind (comp f107.ntmps) = some p107 := by kernel_rfl
abbrev p109 : PC := (⟨_, by conv => lhs; reduce⟩ : Rd (G f109 [])).1
theorem c109 : f109.body.bind (comp f109.ntmps) = some p109 := by kernel_rfl
abbrev p110 : PC := (⟨_, by conv => lhs; reduce⟩ : Rd (G f110 [])).1
theorem c110 : f110.body.bind (comp f110.ntmps) = some p110 := by kernel_rfl
abbrev p111 : PC := (⟨_, by conv => lhs; reduce⟩ : Rd (G f111 [])).1
theorem c111 : f111.body.bind (comp f111.ntmps) = some p111 := by kernel_rfl
abbrev p112l0 : PC := (⟨_, by conv => lhs; reduce⟩ : Rd (K f112 0 [])).1
abbrev p112 : PC := (⟨_, by conv => lhs; reduce⟩ : Rd (fun a => G f112 [a])).1 p112l0
theorem c112 : f112.body.bind (comp f112.ntmps) = some p112 := by kernel_rfl
abbrev p113 : PC := (⟨_, by conv => lhs; reduce⟩ : Rd (G f113 [])).1
theorem c113 : f113.body.bind (comp f113.ntmps) = some p113 := by kernel_rfl
abbrev p114 : PC := (⟨_, by conv => lhs; reduce⟩ : Rd (G f114 [])).1
theorem c114 : f114.body.bind (comp f114.ntmps) = some p114 := by kernel_rfl
abbrev p115 : PC := (⟨_, by conv => lhs; reduce⟩ : Rd (G f115 [])).1
theorem c115 : f115.body.bind (comp f115.ntmps) = some p115 := by kernel_rfl
abbrev p116 : PC := (⟨_, by conv => lhs; reduce⟩ : Rd (G f116 [])).1
theorem c116 : f116.body.bind (comp f116.ntmps) = some p116 := by kernel_rfl
abbrev p117 : PC := (⟨_, by conv => lhs; reduce⟩ : Rd (G f117 [])).1
theorem c117 : f117.body.bind (comp f117.ntmps) = some p117 := by kernel_rfl
abbrev p118 : PC := (⟨_, by conv => lhs; reduce⟩ : Rd (G f118 [])).1
theorem c118 : f118.body.bind (comp f118.ntmps) = some p118 := by kernel_rfl
abbrev p119 : PC := (⟨_, by conv => lhs; reduce⟩ : Rd (G f119 [])).1
theorem c119 : f119.body.bind (comp f119.ntmps) = some p119 := by kernel_rfl
abbrev p120 : PC := (⟨_, by conv => lhs; reduce⟩ : Rd (G f120 [])).1
theorem c120 : f120.body.bind (comp f120.ntmps) = some p120 := by kernel_rfl
abbrev p121l0 : PC := (⟨_, by conv => lhs; reduce⟩ : Rd (K f121 0 [])).1
abbrev p121 : PC := (⟨_, by conv => lhs; reduce⟩ : Rd (fun a => G f121 [a])).1 p121l0
theorem c121 : f121.body.bind (comp f121.ntmps) = some p121 := by kernel_rfl
abbrev p122 : PC := (⟨_, by conv => lhs; reduce⟩ : Rd (G f122 [])).1
theorem c122 : f122.body.bind (comp f122.ntmps) = some p122 := by kernel_rfl
abbrev p123l0 : PC := (⟨_, by conv => lhs; reduce⟩ : Rd (K f123 0 [])).1
abbrev p123 : PC := (⟨_, by conv => lhs; reduce⟩ : Rd (fun a => G f123 [a])).1 p123l0
theorem c123 : f123.body.bind (comp f123.ntmps) = some p123 := by kernel_rfl
abbrev p124l0 : PC := (⟨_, by conv => lhs; reduce⟩ : Rd (K f124 0 [])).1
abbrev p124 : PC := (⟨_, by conv => lhs; reduce⟩ : Rd (fun a => G f124 [a])).1 p124l0
theorem c124 : f124.body.bind (comp f124.ntmps) = some p124 := by kernel_rfl
abbrev p125 : PC := (⟨_, by conv => lhs; reduce⟩ : Rd (G f125 [])).1
theorem c125 : f125.body.bind (comp f125.ntmps) = some p125 := by kernel_rfl
abbrev p126 : PC := (⟨_, by conv => lhs; reduce⟩ : Rd (G f126 [])).1
theorem c126 : f126.body.bind (comp f126.ntmps) = some p126 := by kernel_rfl
abbrev p127l0 : PC := (⟨_, by conv => lhs; reduce⟩ : Rd (K f127 0 [])).1
abbrev p127l1 : PC := (⟨_, by conv => lhs; reduce⟩ : Rd (K f127 1 [])).1
abbrev p127 : PC := (⟨_, by conv => lhs; reduce⟩ : Rd (fun a b => G f127 [a, b])).1 p127l0 p127l1
theorem c127 : f127.body.bind (comp f127.ntmps) = some p127 := by kernel_rfl
abbrev p128l0 : PC := (⟨_, by conv => lhs; reduce⟩ : Rd (K f128 0 [])).1
abbrev p128l1 : PC := (⟨_, by conv => lhs; reduce⟩ : Rd (K f128 1 [])).1
abbrev p128l2 : PC := (⟨_, by conv => lhs; reduce⟩ : Rd (fun a b => K f128 2 [a, b])).1 p128l0 p128l1
abbrev p128 : PC := (⟨_, by conv => lhs; reduce⟩ : Rd (fun a => G f128 [a])).1 p128l2
theorem c128 : f128.body.bind (comp f128.ntmps) = some p128 := by kernel_rfl
abbrev p129l0 : PC := (⟨_, by conv => lhs; reduce⟩ : Rd (K f129 0 [])).1
abbrev p129 : PC := (⟨_, by conv => lhs; reduce⟩ : Rd (fun a => G f129 [a])).1 p129l0
theorem c129 : f129.body.bind (comp f129.ntmps) = some p129 := by kernel_rfl
abbrev p130 : PC := (⟨_, by conv => lhs; reduce⟩ : Rd (G f130 [])).1
theorem c130 : f130.body.bind (comp f130.ntmps) = some p130 := by kernel_rfl
abbrev p131 : PC := (⟨_, by conv => lhs; reduce⟩ : Rd (G f131 [])).1
theorem c131 : f131.body.bind (comp f131.ntmps) = some p131 := by kernel_rfl
abbrev p132 : PC := (⟨_, by conv => lhs; reduce⟩ : Rd (G f132 [])).1
theorem c132 : f132.body.bind (comp f132.ntmps) = some p132 := by kernel_rfl
abbrev p133 : PC := (⟨_, by conv => lhs; reduce⟩ : Rd (G f133 [])).1
theorem c133 : f133.body.bind (comp f133.ntmps) = some p133 := by kernel_rfl
abbrev p134 : PC := (⟨_, by conv => lhs; reduce⟩ : Rd (G f134 [])).1
theorem c134 : f134.body.bind (comp f134.ntmps) = some p134 := by kernel_rfl
abbrev p135 : PC := (⟨_, by conv => lhs; reduce⟩ : Rd (G f135 [])).1
theorem c135 : f135.body.bind (comp f135.ntmps) = some p135 := by kernel_rfl
abbrev p136 : PC := (⟨_, by conv => lhs; reduce⟩ : Rd (G f136 [])).1
theorem c136 : f136.body.bind (comp f136.ntmps) = some p136 := by kernel_rfl
abbrev p137 : PC := (⟨_, by conv => lhs; reduce⟩ : Rd (G f137 [])).1
theorem c137 : f137.body.bind (comp f137.ntmps) = some p137 := by kernel_rfl
abbrev p138 : PC := (⟨_, by conv => lhs; reduce⟩ : Rd (G f138 [])).1
theorem c138 : f138.body.bind (comp f138.ntmps) = some p138 := by kernel_rfl
abbrev p139 : PC := (⟨_, by conv => lhs; reduce⟩ : Rd (G f139 [])).1
theorem c139 : f139.body.bind (comp f139.ntmps) = some p139 := by kernel_rfl
abbrev p140 : PC := (⟨_, by conv => lhs; reduce⟩ : Rd (G f140 [])).1
theorem c140 : f140.body.bind (comp f140.ntmps) = some p140 := by kernel_rfl
abbrev p141 : PC := (⟨_, by conv => lhs; reduce⟩ : Rd (G f141 [])).1
theorem c141 : f141.body.bind (comp f141.ntmps) = some p141 := by kernel_rfl
abbrev p142l0 : PC := (⟨_, by conv => lhs; reduce⟩ : Rd (K f142 0 [])).1
abbrev p142 : PC := (⟨_, by conv => lhs; reduce⟩ : Rd (fun a => G f142 [a])).1 p142l0
theorem c142 : f142.body.bind (comp f142.ntmps) = some p142 := by kernel_rfl
abbrev p143 : PC := (⟨_, by conv => lhs; reduce⟩ : Rd (G f143 [])).1
theorem c143 : f143.body.bind (comp f143.ntmps) = some p143 := by kernel_rfl
abbrev p144l0 : PC := (⟨_, by conv => lhs; reduce⟩ : Rd (K f144 0 [])).1
abbrev p144 : PC := (⟨_, by conv => lhs; reduce⟩ : Rd (fun a => G f144 [a])).1 p144l0
theorem c144 : f144.body.bind (comp f144.ntmps) = some p144 := by kernel_rfl
abbrev p145 : PC := (⟨_, by conv => lhs; reduce⟩ : Rd (G f145 [])).1
theorem c145 : f145.body.bind (comp f145.ntmps) = some p145 := by kernel_rfl
abbrev p146 : PC := (⟨_, by conv => lhs; reduce⟩ : Rd (G f146 [])).1
theorem c146 : f146.body.bind (comp f146.ntmps) = some p146 := by kernel_rfl
abbrev p147 : PC := (⟨_, by conv => lhs; reduce⟩ : Rd (G f147 [])).1
theorem c147 : f147.body.bind (comp f147.ntmps) = some p147 := by kernel_rfl
abbrev p148 : PC := (⟨_, by conv => lhs; reduce⟩ : Rd (G f148 [])).1
theorem c148 : f148.body.bind (comp f148.ntmps) = some p148 := by kernel_rfl
abbrev p149 : PC := (⟨_, by conv => lhs; reduce⟩ : Rd (G f149 [])).1
theorem c149 : f149.body.bind (comp f149.ntmps) = some p149 := by kernel_rfl
abbrev p150 : PC := (⟨_, by conv => lhs; reduce⟩ : Rd (G f150 [])).1
theorem c150 : f150.body.bind (comp f150.ntmps) = some p150 := by kernel_rfl
abbrev p151 : PC := (⟨_, by conv => lhs; reduce⟩ : Rd (G f151 [])).1
theorem c151 : f151.body.bind (comp f151.ntmps) = some p151 := by kernel_rfl
abbrev p152 : PC := (⟨_, by conv => lhs; reduce⟩ : Rd (G f152 [])).1
theorem c152 : f152.body.bind (comp f152.ntmps) = some p152 := by kernel_rfl
abbrev p153 : PC := (⟨_, by conv => lhs; reduce⟩ : Rd (G f153 [])).1
theorem c153 : f153.body.bind (comp f153.ntmps) = some p153 := by kernel_rfl
abbrev p154l0 : PC := (⟨_, by conv => lhs; reduce⟩ : Rd (K f154 0 [])).1
abbrev p154 : PC := (⟨_, by conv => lhs; reduce⟩ : Rd (fun a => G f154 [a])).1 p154l0
theorem c154 : f154.body.bind (comp f154.ntmps) = some p154 := by kernel_rfl
abbrev p155 : PC := (⟨_, by conv => lhs; reduce⟩ : Rd (G f155 [])).1
theorem c155 : f155.body.bind (comp f155.ntmps) = some p155 := by kernel_rfl
abbrev p156l0 : PC := (⟨_, by conv => lhs; reduce⟩ : Rd (K f156 0 [])).1
abbrev p156 : PC := (⟨_, by conv => lhs; reduce⟩ : Rd (fun a => G f156 [a])).1 p156l0
theorem c156 : f156.body.bind (comp f156.ntmps) = some p156 := by kernel_rfl
abbrev p157 : PC := (⟨_, by conv => lhs; reduce⟩ : Rd (G f157 [])).1
theorem c157 : f157.body.bind (comp f157.ntmps) = some p157 := by kernel_rfl
abbrev p158 : PC := (⟨_, by conv => lhs; reduce⟩ : Rd (G f158 [])).1
theorem c158 : f158.body.bind (comp f158.ntmps) = some p158 := by kernel_rfl
abbrev p159l0 : PC := (⟨_, by conv => lhs; reduce⟩ : Rd (K f159 0 [])).1
abbrev p159 : PC := (⟨_, by conv => lhs; reduce⟩ : Rd (fun a => G f159 [a])).1 p159l0
theorem c159 : f159.body.bind (comp f159.ntmps) = some p159 := by kernel_rfl
abbrev p160 : PC := (⟨_, by conv => lhs; reduce⟩ : Rd (G f160 [])).1
theorem c160 : f160.body.bind (comp f160.ntmps) = some p160 := by kernel_rfl
abbrev p161 : PC := (⟨_, by conv => lhs; reduce⟩ : Rd (G f161 [])).1
theorem c161 : f161.body.bind (comp f161.ntmps) = some p161 := by kernel_rfl
abbrev p162 : PC := (⟨_, by conv => lhs; reduce⟩ : Rd (G f162 [])).1
theorem c162 : f162.body.bind (comp f162.ntmps) = some p162 := by kernel_rfl
abbrev p163 : PC := (⟨_, by conv => lhs; reduce⟩ : Rd (G f163 [])).1
theorem c163 : f163.body.bind (comp f163.ntmps) = some p163 := by kernel_rfl
abbrev p164 : PC := (⟨_, by conv => lhs; reduce⟩ : Rd (G f164 [])).1
theorem c164 : f164.body.bind (comp f164.ntmps) = some p164 := by kernel_rfl
abbrev p165 : PC := (⟨_, by conv => lhs; reduce⟩ : Rd (G f165 [])).1
theorem c165 : f165.body.bind (comp f165.ntmps) = some p165 := by kernel_rfl
abbrev p166 : PC := (⟨_, by conv => lhs; reduce⟩ : Rd (G f166 [])).1
theorem c166 : f166.body.bind (comp f166.ntmps) = some p166 := by kernel_rfl
abbrev p167 : PC := (⟨_, by conv => lhs; reduce⟩ : Rd (G f167 [])).1
theorem c167 : f167.body.bind (comp f167.ntmps) = some p167 := by kernel_rfl
abbrev p168 : PC := (⟨_, by conv => lhs; reduce⟩ : Rd (G f168 [])).1
theorem c168 : f168.body.bind (comp f168.ntmps) = some p168 := by kernel_rfl
abbrev p169 : PC := (⟨_, by conv => lhs; reduce⟩ : Rd (G f169 [])).1
theorem c169 : f169.body.bind (comp f169.ntmps) = some p169 := by kernel_rfl
abbrev p170 : PC := (⟨_, by conv => lhs; reduce⟩ : Rd (G f170 [])).1
theorem c170 : f170.body.bind (comp f170.ntmps) = some p170 := by kernel_rfl
abbrev p171 : PC := (⟨_, by conv => lhs; reduce⟩ : Rd (G f171 [])).1
theorem c171 : f171.body.bind (comp f171.ntmps) = some p171 := by kernel_rfl
abbrev p172l0 : PC := (⟨_, by conv => lhs; reduce⟩ : Rd (K f172 0 [])).1
abbrev p172 : PC := (⟨_, by conv => lhs; reduce⟩ : Rd (fun a => G f172 [a])).1 p172l0
theorem c172 : f172.body.bind (comp f172.ntmps) = some p172 := by kernel_rfl
abbrev p173 : PC := (⟨_, by conv => lhs; reduce⟩ : Rd (G f173 [])).1
theorem c173 : f173.body.bind (comp f173.ntmps) = some p173 := by kernel_rfl
abbrev p174 : PC := (⟨_, by conv => lhs; reduce⟩ : Rd (G f174 [])).1
theorem c174 : f174.body.bind (comp f174.ntmps) = some p174 := by kernel_rfl
abbrev p175 : PC := (⟨_, by conv => lhs; reduce⟩ : Rd (G f175 [])).1
theorem c175 : f175.body.bind (comp f175.ntmps) = some p175 := by kernel_rfl
abbrev p176l0 : PC := (⟨_, by conv => lhs; reduce⟩ : Rd (K f176 0 [])).1
abbrev p176 : PC := (⟨_, by conv => lhs; reduce⟩ : Rd (fun a => G f176 [a])).1 p176l0
theorem c176 : f176.body.bind (comp f176.ntmps) = some p176 := by kernel_rfl
abbrev p177l0 : PC := (⟨_, by conv => lhs; reduce⟩ : Rd (K f177 0 [])).1
abbrev p177 : PC := (⟨_, by conv => lhs; reduce⟩ : Rd (fun a => G f177 [a])).1 p177l0
theorem c177 : f177.body.bind (comp f177.ntmps) = some p177 := by kernel_rfl
abbrev p178 : PC := (⟨_, by conv => lhs; reduce⟩ : Rd (G f178 [])).1
theorem c178 : f178.body.bind (comp f178.ntmps) = some p178 := by kernel_rfl
abbrev p179 : PC := (⟨_, by conv => lhs; reduce⟩ : Rd (G f179 [])).1
theorem c179 : f179.body.bind (comp f179.ntmps) = some p179 := by kernel_rfl
abbrev p180l0 : PC := (⟨_, by conv => lhs; reduce⟩ : Rd (K f180 0 [])).1
abbrev p180 : PC := (⟨_, by conv => lhs; reduce⟩ : Rd (fun a => G f180 [a])).1 p180l0
theorem c180 : f180.body.bind (comp f180.ntmps) = some p180 := by kernel_rfl
abbrev p181l0 : PC := (⟨_, by conv => lhs; reduce⟩ : Rd (K f181 0 [])).1
abbrev p181 : PC := (⟨_, by conv => lhs; reduce⟩ : Rd (fun a => G f181 [a])).1 p181l0
theorem c181 : f181.body.bind (comp f181.ntmps) = some p181 := by kernel_rfl
abbrev p182l0 : PC := (⟨_, by conv => lhs; reduce⟩ : Rd (K f182 0 [])).1
abbrev p182 : PC := (⟨_, by conv => lhs; reduce⟩ : Rd (fun a => G f182 [a])).1 p182l0
theorem c182 : f182.body.bind (comp f182.ntmps) = some p182 := by kernel_rfl
abbrev p183 : PC := (⟨_, by conv => lhs; reduce⟩ : Rd (G f183 [])).1
theorem c183 : f183.body.bind (comp f183.ntmps) = some p183 := by kernel_rfl
abbrev p185 : PC := (⟨_, by conv => lhs; reduce⟩ : Rd (G f185 [])).1
theorem c185 : f185.body.bind (comp f185.ntmps) = some p185 := by kernel_rfl
abbrev p186 : PC := (⟨_, by conv => lhs; reduce⟩ : Rd (G f186 [])).1
theorem c186 : f186.body.bind (comp f186.ntmps) = some p186 := by kernel_rfl
abbrev p187l0 : PC := (⟨_, by conv => lhs; reduce⟩ : Rd (K f187 0 [])).1
abbrev p187 : PC := (⟨_, by conv => lhs; reduce⟩ : Rd (fun a => G f187 [a])).1 p187l0
theorem c187 : f187.body.bind (comp f187.ntmps) = some p187 := by kernel_rfl
abbrev p188 : PC := (⟨_, by conv => lhs; reduce⟩ : Rd (G f188 [])).1
theorem c188 : f188.body.bind (comp f188.ntmps) = some p188 := by kernel_rfl
abbrev p189 : PC := (⟨_, by conv => lhs; reduce⟩ : Rd (G f189 [])).1
theorem c189 : f189.body.bind (comp f189.ntmps) = some p189 := by kernel_rfl
abbrev p190l0 : PC := (⟨_, by conv => lhs; reduce⟩ : Rd (K f190 0 [])).1
abbrev p190 : PC := (⟨_, by conv => lhs; reduce⟩ : Rd (fun a => G f190 [a])).1 p190l0
theorem c190 : f190.body.bind (comp f190.ntmps) = some p190 := by kernel_rfl
abbrev p191 : PC := (⟨_, by conv => lhs; reduce⟩ : Rd (G f191 [])).1
theorem c191 : f191.body.bind (comp f191.ntmps) = some p191 := by kernel_rfl
abbrev p192 : PC := (⟨_, by conv => lhs; reduce⟩ : Rd (G f192 [])).1
theorem c192 : f192.body.bind (comp f192.ntmps) = some p192 := by kernel_rfl
abbrev p193 : PC := (⟨_, by conv => lhs; reduce⟩ : Rd (G f193 [])).1
theorem c193 : f193.body.bind (comp f193.ntmps) = some p193 := by kernel_rfl
abbrev p194 : PC := (⟨_, by conv => lhs; reduce⟩ : Rd (G f194 [])).1
theorem c194 : f194.body.bind (comp f194.ntmps) = some p194 := by kernel_rfl
abbrev p195 : PC := (⟨_, by conv => lhs; reduce⟩ : Rd (G f195 [])).1
theorem c195 : f195.body.bind (comp f195.ntmps) = some p195 := by kernel_rfl
abbrev p196 : PC := (⟨_, by conv => lhs; reduce⟩ : Rd (G f196 [])).1
theorem c196 : f196.body.bind (comp f196.ntmps) = some p196 := by kernel_rfl
abbrev p197l0 : PC := (⟨_, by conv => lhs; reduce⟩ : Rd (K f197 0 [])).1
abbrev p197 : PC := (⟨_, by conv => lhs; reduce⟩ : Rd (fun a => G f197 [a])).1 p197l0
theorem c197 : f197.body.bind (comp f197.ntmps) = some p197 := by kernel_rfl
abbrev p198 : PC := (⟨_, by conv => lhs; reduce⟩ : Rd (G f198 [])).1
theorem c198 : f198.body.bind (comp f198.ntmps) = some p198 := by kernel_rfl
abbrev p199 : PC := (⟨_, by conv => lhs; reduce⟩ : Rd (G f199 [])).1
theorem c199 : f199.body.bind (comp f199.ntmps) = some p199 := by kernel_rfl
abbrev p200l0 : PC := (⟨_, by conv => lhs; reduce⟩ : Rd (K f200 0 [])).1
abbrev p200 : PC := (⟨_, by conv => lhs; reduce⟩ : Rd (fun a => G f200 [a])).1 p200l0
theorem c200 : f200.body.bind (comp f200.ntmps) = some p200 := by kernel_rfl
abbrev p201 : PC := (⟨_, by conv => lhs; reduce⟩ : Rd (G f201 [])).1
theorem c201 : f201.body.bind (comp f201.ntmps) = some p201 := by kernel_rfl
abbrev p202 : PC := (⟨_, by conv => lhs; reduce⟩ : Rd (G f202 [])).1
theorem c202 : f202.body.bind (comp f202.ntmps) = some p202 := by kernel_rfl
abbrev p203 : PC := (⟨_, by conv => lhs; reduce⟩ : Rd (G f203 [])).1
theorem c203 : f203.body.bind (comp f203.ntmps) = some p203 := by kernel_rfl
abbrev p204 : PC := (⟨_, by conv => lhs; reduce⟩ : Rd (G f204 [])).1
theorem c204 : f204.body.bind (comp f204.ntmps) = some p204 := by kernel_rfl
abbrev p205 : PC := (⟨_, by conv => lhs; reduce⟩ : Rd (G f205 [])).1
theorem c205 : f205.body.bind (comp f205.ntmps) = some p205 := by kernel_rfl
abbrev p206 : PC := (⟨_, by conv => lhs; reduce⟩ : Rd (G f206 [])).1
theorem c206 : f206.body.bind (comp f206.ntmps) = some p206 := by kernel_rfl
abbrev p207l0 : PC := (⟨_, by conv => lhs; reduce⟩ : Rd (K f207 0 [])).1
abbrev p207 : PC := (⟨_, by conv => lhs; reduce⟩ : Rd (fun a => G f207 [a])).1 p207l0
theorem c207 : f207.body.bind (comp f207.ntmps) = some p207 := by kernel_rfl
abbrev p208 : PC := (⟨_, by conv => lhs; reduce⟩ : Rd (G f208 [])).1
theorem c208 : f208.body.bind (comp f208.ntmps) = some p208 := by kernel_rfl
abbrev p209l0 : PC := (⟨_, by conv => lhs; reduce⟩ : Rd (K f209 0 [])).1
abbrev p209 : PC := (⟨_, by conv => lhs; reduce⟩ : Rd (fun a => G f209 [a])).1 p209l0
theorem c209 : f209.body.bind (comp f209.ntmps) = some p209 := by kernel_rfl
abbrev p210l0 : PC := (⟨_, by conv => lhs; reduce⟩ : Rd (K f210 0 [])).1
abbrev p210 : PC := (⟨_, by conv => lhs; reduce⟩ : Rd (fun a => G f210 [a])).1 p210l0
theorem c210 : f210.body.bind (comp f210.ntmps) = some p210 := by kernel_rfl
abbrev p211 : PC := (⟨_, by conv => lhs; reduce⟩ : Rd (G f211 [])).1
theorem c211 : f211.body.bind (comp f211.ntmps) = some p211 := by kernel_rfl
abbrev p212 : PC := (⟨_, by conv => lhs; reduce⟩ : Rd (G f212 [])).1
theorem c212 : f212.body.bind (comp f212.ntmps) = some p212 := by kernel_rfl
abbrev p213l0 : PC := (⟨_, by conv => lhs; reduce⟩ : Rd (K f213 0 [])).1
abbrev p213 : PC := (⟨_, by conv => lhs; reduce⟩ : Rd (fun a => G f213 [a])).1 p213l0
theorem c213 : f213.body.bind (comp f213.ntmps) = some p213 := by kernel_rfl
abbrev p214l0 : PC := (⟨_, by conv => lhs; reduce⟩ : Rd (K f214 0 [])).1
abbrev p214 : PC := (⟨_, by conv => lhs; reduce⟩ : Rd (fun a => G f214 [a])).1 p214l0
theorem c214 : f214.body.bind (comp f214.ntmps) = some p214 := by kernel_rfl
abbrev p215 : PC := (⟨_, by conv => lhs; reduce⟩ : Rd (G f215 [])).1
theorem c215 : f215.body.bind (comp f215.ntmps) = some p215 := by kernel_rfl
abbrev p216 : PC := (⟨_, by conv => lhs; reduce⟩ : Rd (G f216 [])).1
theorem c216 : f216.body.bind (comp f216.ntmps) = some p216 := by kernel_rfl
abbrev p217 : PC := (⟨_, by conv => lhs; reduce⟩ : Rd (G f217 [])).1
theorem c217 : f217.body.bind (comp f217.ntmps) = some p217 := by kernel_rfl
abbrev p218l0 : PC := (⟨_, by conv => lhs; reduce⟩ : Rd (K f218 0 [])).1
abbrev p218 : PC := (⟨_, by conv => lhs; reduce⟩ : Rd (fun a => G f218 [a])).1 p218l0
theorem c218 : f218.body.bind (comp f218.ntmps) = some p218 := by kernel_rfl
abbrev p219 : PC := (⟨_, by conv => lhs; reduce⟩ : Rd (G f219 [])).1
theorem c219 : f219.body.bind (comp f219.ntmps) = some p219 := by kernel_rfl
abbrev p220 : PC := (⟨_, by conv => lhs; reduce⟩ : Rd (G f220 [])).1
theorem c220 : f220.body.bind (comp f220.ntmps) = some p220 := by kernel_rfl
abbrev p221 : PC := (⟨_, by conv => lhs; reduce⟩ : Rd (G f221 [])).1
theorem c221 : f221.body.bind (comp f221.ntmps) = some p221 := by kernel_rfl
abbrev p222l0 : PC := (⟨_, by conv => lhs; reduce⟩ : Rd (K f222 0 [])).1
abbrev p222 : PC := (⟨_, by conv => lhs; reduce⟩ : Rd (fun a => G f222 [a])).1 p222l0
theorem c222 : f222.body.bind (comp f222.ntmps) = some p222 := by kernel_rfl
abbrev p223 : PC := (⟨_, by conv => lhs; reduce⟩ : Rd (G f223 [])).1
theorem c223 : f223.body.bind (comp f223.ntmps) = some p223 := by kernel_rfl
abbrev p224 : PC := (⟨_, by conv => lhs; reduce⟩ : Rd (G f224 [])).1
theorem c224 : f224.body.bind (comp f224.ntmps) = some p224 := by kernel_rfl
abbrev p225l0 : PC := (⟨_, by conv => lhs; reduce⟩ : Rd (K f225 0 [])).1
abbrev p225 : PC := (⟨_, by conv => lhs; reduce⟩ : Rd (fun a => G f225 [a])).1 p225l0
theorem c225 : f225.body.bind (comp f225.ntmps) = some p225 := by kernel_rfl
abbrev p226 : PC := (⟨_, by conv => lhs; reduce⟩ : Rd (G f226 [])).1
theorem c226 : f226.body.bind (comp f226.ntmps) = some p226 := by kernel_rfl
abbrev p227 : PC := (⟨_, by conv => lhs; reduce⟩ : Rd (G f227 [])).1
theorem c227 : f227.body.bind (comp f227.ntmps) = some p227 := by kernel_rfl
abbrev p228l0 : PC := (⟨_, by conv => lhs; reduce⟩ : Rd (K f228 0 [])).1
abbrev p228 : PC := (⟨_, by conv => lhs; reduce⟩ : Rd (fun a => G f228 [a])).1 p228l0
theorem c228 : f228.body.bind (comp f228.ntmps) = some p228 := by kernel_rfl
abbrev p229 : PC := (⟨_, by conv => lhs; reduce⟩ : Rd (G f229 [])).1
theorem c229 : f229.body.bind (comp f229.ntmps) = some p229 := by kernel_rfl
abbrev p230 : PC := (⟨_, by conv => lhs; reduce⟩ : Rd (G f230 [])).1
theorem c230 : f230.body.bind (comp f230.ntmps) = some p230 := by kernel_rfl
abbrev p231l0 : PC := (⟨_, by conv => lhs; reduce⟩ : Rd (K f231 0 [])).1
abbrev p231 : PC := (⟨_, by conv => lhs; reduce⟩ : Rd (fun a => G f231 [a])).1 p231l0
theorem c231 : f231.body.bind (comp f231.ntmps) = some p231 := by kernel_rfl
abbrev p232 : PC := (⟨_, by conv => lhs; reduce⟩ : Rd (G f232 [])).1
theorem c232 : f232.body.bind (comp f232.ntmps) = some p232 := by kernel_rfl
abbrev p233 : PC := (⟨_, by conv => lhs; reduce⟩ : Rd (G f233 [])).1
theorem c233 : f233.body.bind (comp f233.ntmps) = some p233 := by kernel_rfl
abbrev p234 : PC := (⟨_, by conv => lhs; reduce⟩ : Rd (G f234 [])).1
theorem c234 : f234.body.bind (comp f234.ntmps) = some p234 := by kernel_rfl
abbrev p235 : PC := (⟨_, by conv => lhs; reduce⟩ : Rd (G f235 [])).1
theorem c235 : f235.body.bind (comp f235.ntmps) = some p235 := by kernel_rfl
abbrev p236 : PC := (⟨_, by conv => lhs; reduce⟩ : Rd (G f236 [])).1
theorem c236 : f236.body.bind (comp f236.ntmps) = some p236 := by kernel_rfl
abbrev p237l0 : PC := (⟨_, by conv => lhs; reduce⟩ : Rd (K f237 0 [])).1
abbrev p237 : PC := (⟨_, by conv => lhs; reduce⟩ : Rd (fun a => G f237 [a])).1 p237l0
theorem c237 : f237.body.bind (comp f237.ntmps) = some p237 := by kernel_rfl
abbrev p238l0 : PC := (⟨_, by conv => lhs; reduce⟩ : Rd (K f238 0 [])).1
abbrev p238 : PC := (⟨_, by conv => lhs; reduce⟩ : Rd (fun a => G f238 [a])).1 p238l0
theorem c238 : f238.body.bind (comp f238.ntmps) = some p238 := by kernel_rfl
abbrev p239l0 : PC := (⟨_, by conv => lhs; reduce⟩ : Rd (K f239 0 [])).1
abbrev p239 : PC := (⟨_, by conv => lhs; reduce⟩ : Rd (fun a => G f239 [a])).1 p239l0
theorem c239 : f239.body.bind (comp f239.ntmps) = some p239 := by kernel_rfl
abbrev p240 : PC := (⟨_, by conv => lhs; reduce⟩ : Rd (G f240 [])).1
theorem c240 : f240.body.bind (comp f240.ntmps) = some p240 := by kernel_rfl
abbrev p241l0 : PC := (⟨_, by conv => lhs; reduce⟩ : Rd (K f241 0 [])).1
abbrev p241 : PC := (⟨_, by conv => lhs; reduce⟩ : Rd (fun a => G f241 [a])).1 p241l0
theorem c241 : f241.body.bind (comp f241.ntmps) = some p241 := by kernel_rfl
abbrev p242 : PC := (⟨_, by conv => lhs; reduce⟩ : Rd (G f242 [])).1
theorem c242 : f242.body.bind (comp f242.ntmps) = some p242 := by kernel_rfl
abbrev p243 : PC := (⟨_, by conv => lhs; reduce⟩ : Rd (G f243 [])).1
theorem c243 : f243.body.bind (comp f243.ntmps) = some p243 := by kernel_rfl
abbrev p244 : PC := (⟨_, by conv => lhs; reduce⟩ : Rd (G f244 [])).1
theorem c244 : f244.body.bind (comp f244.ntmps) = some p244 := by kernel_rfl
abbrev p245 : PC := (⟨_, by conv => lhs; reduce⟩ : Rd (G f245 [])).1
theorem c245 : f245.body.bind (comp f245.ntmps) = some p245 := by kernel_rfl
abbrev p246l0 : PC := (⟨_, by conv => lhs; reduce⟩ : Rd (K f246 0 [])).1
abbrev p246 : PC := (⟨_, by conv => lhs; reduce⟩ : Rd (fun a => G f246 [a])).1 p246l0
theorem c246 : f246.body.bind (comp f246.ntmps) = some p246 := by kernel_rfl
abbrev p247 : PC := (⟨_, by conv => lhs; reduce⟩ : Rd (G f247 [])).1
theorem c247 : f247.body.bind (comp f247.ntmps) = some p247 := by kernel_rfl
abbrev p248 : PC := (⟨_, by conv => lhs; reduce⟩ : Rd (G f248 [])).1
theorem c248 : f248.body.bind (comp f248.ntmps) = some p248 := by kernel_rfl
abbrev p249 : PC := (⟨_, by conv => lhs; reduce⟩ : Rd (G f249 [])).1
theorem c249 : f249.body.bind (comp f249.ntmps) = some p249 := by kernel_rfl
abbrev p250 : PC := (⟨_, by conv => lhs; reduce⟩ : Rd (G f250 [])).1
theorem c250 : f250.body.bind (comp f250.ntmps) = some p250 := by kernel_rfl
abbrev p251 : PC := (⟨_, by conv => lhs; reduce⟩ : Rd (G f251 [])).1
theorem c251 : f251.body.bind (comp f251.ntmps) = some p251 := by kernel_rfl
abbrev p252 : PC := (⟨_, by conv => lhs; reduce⟩ : Rd (G f252 [])).1
theorem c252 : f252.body.bind (comp f252.ntmps) = some p252 := by kernel_rfl
abbrev p253 : PC := (⟨_, by conv => lhs; reduce⟩ : Rd (G f253 [])).1
theorem c253 : f253.body.bind (comp f253.ntmps) = some p253 := by kernel_rfl
abbrev p254l0 : PC := (⟨_, by conv => lhs; reduce⟩ : Rd (K f254 0 [])).1
abbrev p254l1 : PC := (⟨_, by conv => lhs; reduce⟩ : Rd (fun a => K f254 1 [a])).1 p254l0
abbrev p254 : PC := (⟨_, by conv => lhs; reduce⟩ : Rd (fun a => G f254 [a])).1 p254l1
theorem c254 : f254.body.bind (comp f254.ntmps) = some p254 := by kernel_rfl
abbrev p255 : PC := (⟨_, by conv => lhs; reduce⟩ : Rd (G f255 [])).1
theorem c255 : f255.body.bind (comp f255.ntmps) = some p255 := by kernel_rfl
abbrev p256 : PC := (⟨_, by conv => lhs; reduce⟩ : Rd (G f256 [])).1
theorem c256 : f256.body.bind (comp f256.ntmps) = some p256 := by kernel_rfl
abbrev p257 : PC := (⟨_, by conv => lhs; reduce⟩ : Rd (G f257 [])).1
theorem c257 : f257.body.bind (comp f257.ntmps) = some p257 := by kernel_rfl
abbrev p258l0 : PC := (⟨_, by conv => lhs; reduce⟩ : Rd (K f258 0 [])).1
abbrev p258 : PC := (⟨_, by conv => lhs; reduce⟩ : Rd (fun a => G f258 [a])).1 p258l0
theorem c258 : f258.body.bind (comp f258.ntmps) = some p258 := by kernel_rfl
abbrev p259 : PC := (⟨_, by conv => lhs; reduce⟩ : Rd (G f259 [])).1
theorem c259 : f259.body.bind (comp f259.ntmps) = some p259 := by kernel_rfl
abbrev p260 : PC := (⟨_, by conv => lhs; reduce⟩ : Rd (G f260 [])).1
theorem c260 : f260.body.bind (comp f260.ntmps) = some p260 := by kernel_rfl
abbrev p261l0 : PC := (⟨_, by conv => lhs; reduce⟩ : Rd (K f261 0 [])).1
abbrev p261l1 : PC := (⟨_, by conv => lhs; reduce⟩ : Rd (K f261 1 [])).1
abbrev p261 : PC := (⟨_, by conv => lhs; reduce⟩ : Rd (fun a b => G f261 [a, b])).1 p261l0 p261l1
theorem c261 : f261.body.bind (comp f261.ntmps) = some p261 := by kernel_rfl
abbrev p262 : PC := (⟨_, by conv => lhs; reduce⟩ : Rd (G f262 [])).1
theorem c262 : f262.body.bind (comp f262.ntmps) = some p262 := by kernel_rfl
abbrev p263 : PC := (⟨_, by conv => lhs; reduce⟩ : Rd (G f263 [])).1
theorem c263 : f263.body.bind (comp f263.ntmps) = some p263 := by kernel_rfl
abbrev p264 : PC := (⟨_, by conv => lhs; reduce⟩ : Rd (G f264 [])).1
theorem c264 : f264.body.bind (comp f264.ntmps) = some p264 := by kernel_rfl
abbrev p265 : PC := (⟨_, by conv => lhs; reduce⟩ : Rd (G f265 [])).1
theorem c265 : f265.body.bind (comp f265.ntmps) = some p265 := by kernel_rfl
abbrev p267 : PC := (⟨_, by conv => lhs; reduce⟩ : Rd (G f267 [])).1
theorem c267 : f267.body.bind (comp f267.ntmps) = some p267 := by kernel_rfl
abbrev p268l0 : PC := (⟨_, by conv => lhs; reduce⟩ : Rd (K f268 0 [])).1
abbrev p268l1 : PC := (⟨_, by conv => lhs; reduce⟩ : Rd (K f268 1 [])).1
abbrev p268 : PC := (⟨_, by conv => lhs; reduce⟩ : Rd (fun a b => G f268 [a, b])).1 p268l0 p268l1
theorem c268 : f268.body.bind (comp f268.ntmps) = some p268 := by kernel_rfl
abbrev p269l0 : PC := (⟨_, by conv => lhs; reduce⟩ : Rd (K f269 0 [])).1
abbrev p269l1 : PC := (⟨_, by conv => lhs; reduce⟩ : Rd (K f269 1 [])).1
abbrev p269 : PC := (⟨_, by conv => lhs; reduce⟩ : Rd (fun a b => G f269 [a, b])).1 p269l0 p269l1
theorem c269 : f269.body.bind (comp f269.ntmps) = some p269 := by kernel_rfl
abbrev p270 : PC := (⟨_, by conv => lhs; reduce⟩ : Rd (G f270 [])).1
theorem c270 : f270.body.bind (comp f270.ntmps) = some p270 := by kernel_rfl
abbrev p271l0 : PC := (⟨_, by conv => lhs; reduce⟩ : Rd (K f271 0 [])).1
abbrev p271 : PC := (⟨_, by conv => lhs; reduce⟩ : Rd (fun a => G f271 [a])).1 p271l0
theorem c271 : f271.body.bind (comp f271.ntmps) = some p271 := by kernel_rfl
abbrev p272 : PC := (⟨_, by conv => lhs; reduce⟩ : Rd (G f272 [])).1
theorem c272 : f272.body.bind (comp f272.ntmps) = some p272 := by kernel_rfl
abbrev p273 : PC := (⟨_, by conv => lhs; reduce⟩ : Rd (G f273 [])).1
theorem c273 : f273.body.bind (comp f273.ntmps) = some p273 := by kernel_rfl
abbrev p274 : PC := (⟨_, by conv => lhs; reduce⟩ : Rd (G f274 [])).1
theorem c274 : f274.body.bind (comp f274.ntmps) = some p274 := by kernel_rfl
abbrev p275 : PC := (⟨_, by conv => lhs; reduce⟩ : Rd (G f275 [])).1
theorem c275 : f275.body.bind (comp f275.ntmps) = some p275 := by kernel_rfl
abbrev p276 : PC := (⟨_, by conv => lhs; reduce⟩ : Rd (G f276 [])).1
theorem c276 : f276.body.bind (comp f276.ntmps) = some p276 := by kernel_rfl
abbrev p278 : PC := (⟨_, by conv => lhs; reduce⟩ : Rd (G f278 [])).1
theorem c278 : f278.body.bind (comp f278.ntmps) = some p278 := by kernel_rfl
abbrev p279l0 : PC := (⟨_, by conv => lhs; reduce⟩ : Rd (K f279 0 [])).1
abbrev p279 : PC := (⟨_, by conv => lhs; reduce⟩ : Rd (fun a => G f279 [a])).1 p279l0
theorem c279 : f279.body.bind (comp f279.ntmps) = some p279 := by kernel_rfl
abbrev p280l0 : PC := (⟨_, by conv => lhs; reduce⟩ : Rd (K f280 0 [])).1
abbrev p280 : PC := (⟨_, by conv => lhs; reduce⟩ : Rd (fun a => G f280 [a])).1 p280l0
theorem c280 : f280.body.bind (comp f280.ntmps) = some p280 := by kernel_rfl
abbrev p281l0 : PC := (⟨_, by conv => lhs; reduce⟩ : Rd (K f281 0 [])).1
abbrev p281 : PC := (⟨_, by conv => lhs; reduce⟩ : Rd (fun a => G f281 [a])).1 p281l0
theorem c281 : f281.body.bind (comp f281.ntmps) = some p281 := by kernel_rfl
abbrev p282l0 : PC := (⟨_, by conv => lhs; reduce⟩ : Rd (K f282 0 [])).1
abbrev p282 : PC := (⟨_, by conv => lhs; reduce⟩ : Rd (fun a => G f282 [a])).1 p282l0
theorem c282 : f282.body.bind (comp f282.ntmps) = some p282 := by kernel_rfl
abbrev p283l0 : PC := (⟨_, by conv => lhs; reduce⟩ : Rd (K f283 0 [])).1
abbrev p283 : PC := (⟨_, by conv => lhs; reduce⟩ : Rd (fun a => G f283 [a])).1 p283l0
theorem c283 : f283.body.bind (comp f283.ntmps) = some p283 := by kernel_rfl
abbrev p284l0 : PC := (⟨_, by conv => lhs; reduce⟩ : Rd (K f284 0 [])).1
abbrev p284 : PC := (⟨_, by conv => lhs; reduce⟩ : Rd (fun a => G f284 [a])).1 p284l0
theorem c284 : f284.body.bind (comp f284.ntmps) = some p284 := by kernel_rfl
abbrev p285l0 : PC := (⟨_, by conv => lhs; reduce⟩ : Rd (K f285 0 [])).1
abbrev p285 : PC := (⟨_, by conv => lhs; reduce⟩ : Rd (fun a => G f285 [a])).1 p285l0
theorem c285 : f285.body.bind (comp f285.ntmps) = some p285 := by kernel_rfl
abbrev p286l0 : PC := (⟨_, by conv => lhs; reduce⟩ : Rd (K f286 0 [])).1
abbrev p286 : PC := (⟨_, by conv => lhs; reduce⟩ : Rd (fun a => G f286 [a])).1 p286l0
theorem c286 : f286.body.bind (comp f286.ntmps) = some p286 := by kernel_rfl
abbrev p287 : PC := (⟨_, by conv => lhs; reduce⟩ : Rd (G f287 [])).1
theorem c287 : f287.body.bind (comp f287.ntmps) = some p287 := by kernel_rfl
abbrev p288 : PC := (⟨_, by conv => lhs; reduce⟩ : Rd (G f288 [])).1
theorem c288 : f288.body.bind (comp f288.ntmps) = some p288 := by kernel_rfl
abbrev p289 : PC := (⟨_, by conv => lhs; reduce⟩ : Rd (G f289 [])).1
theorem c289 : f289.body.bind (comp f289.ntmps) = some p289 := by kernel_rfl
abbrev p290 : PC := (⟨_, by conv => lhs; reduce⟩ : Rd (G f290 [])).1
theorem c290 : f290.body.bind (comp f290.ntmps) = some p290 := by kernel_rfl
abbrev p291l0 : PC := (⟨_, by conv => lhs; reduce⟩ : Rd (K f291 0 [])).1
abbrev p291l1 : PC := (⟨_, by conv => lhs; reduce⟩ : Rd (fun a => K f291 1 [a])).1 p291l0
abbrev p291 : PC := (⟨_, by conv => lhs; reduce⟩ : Rd (fun a => G f291 [a])).1 p291l1
theorem c291 : f291.body.bind (comp f291.ntmps) = some p291 := by kernel_rfl
abbrev p292l0 : PC := (⟨_, by conv => lhs; reduce⟩ : Rd (K f292 0 [])).1
abbrev p292l1 : PC := (⟨_, by conv => lhs; reduce⟩ : Rd (fun a => K f292 1 [a])).1 p292l0
abbrev p292 : PC := (⟨_, by conv => lhs; reduce⟩ : Rd (fun a => G f292 [a])).1 p292l1
theorem c292 : f292.body.bind (comp f292.ntmps) = some p292 := by kernel_rfl
abbrev p293 : PC := (⟨_, by conv => lhs; reduce⟩ : Rd (G f293 [])).1
theorem c293 : f293.body.bind (comp f293.ntmps) = some p293 := by kernel_rfl
abbrev p294 : PC := (⟨_, by conv => lhs; reduce⟩ : Rd (G f294 [])).1
theorem c294 : f294.body.bind (comp f294.ntmps) = some p294 := by kernel_rfl
abbrev p295l0 : PC := (⟨_, by conv => lhs; reduce⟩ : Rd (K f295 0 [])).1
abbrev p295 : PC := (⟨_, by conv => lhs; reduce⟩ : Rd (fun a => G f295 [a])).1 p295l0
theorem c295 : f295.body.bind (comp f295.ntmps) = some p295 := by kernel_rfl
abbrev p296 : PC := (⟨_, by conv => lhs; reduce⟩ : Rd (G f296 [])).1
theorem c296 : f296.body.bind (comp f296.ntmps) = some p296 := by kernel_rfl
abbrev p297 : PC := (⟨_, by conv => lhs; reduce⟩ : Rd (G f297 [])).1
theorem c297 : f297.body.bind (comp f297.ntmps) = some p297 := by kernel_rfl
abbrev p298 : PC := (⟨_, by conv => lhs; reduce⟩ : Rd (G f298 [])).1
theorem c298 : f298.body.bind (comp f298.ntmps) = some p298 := by kernel_rfl
abbrev p299 : PC := (⟨_, by conv => lhs; reduce⟩ : Rd (G f299 [])).1
theorem c299 : f299.body.bind (comp f299.ntmps) = some p299 := by kernel_rfl
abbrev p300 : PC := (⟨_, by conv => lhs; reduce⟩ : Rd (G f300 [])).1
theorem c300 : f300.body.bind (comp f300.ntmps) = some p300 := by kernel_rfl
abbrev p301 : PC := (⟨_, by conv => lhs; reduce⟩ : Rd (G f301 [])).1
theorem c301 : f301.body.bind (comp f301.ntmps) = some p301 := by kernel_rfl
abbrev p302 : PC := (⟨_, by conv => lhs; reduce⟩ : Rd (G f302 [])).1
theorem c302 : f302.body.bind (comp f302.ntmps) = some p302 := by kernel_rfl
abbrev p303l0 : PC := (⟨_, by conv => lhs; reduce⟩ : Rd (K f303 0 [])).1
abbrev p303 : PC := (⟨_, by conv => lhs; reduce⟩ : Rd (fun a => G f303 [a])).1 p303l0
theorem c303 : f303.body.bind (comp f303.ntmps) = some p303 := by kernel_rfl
abbrev p304l0 : PC := (⟨_, by conv => lhs; reduce⟩ : Rd (K f304 0 [])).1
abbrev p304 : PC := (⟨_, by conv => lhs; reduce⟩ : Rd (fun a => G f304 [a])).1 p304l0
theorem c304 : f304.body.bind (comp f304.ntmps) = some p304 := by kernel_rfl
abbrev p305 : PC := (⟨_, by conv => lhs; reduce⟩ : Rd (G f305 [])).1
theorem c305 : f305.body.bind (comp f305.ntmps) = some p305 := by kernel_rfl
abbrev p306 : PC := (⟨_, by conv => lhs; reduce⟩ : Rd (G f306 [])).1
theorem c306 : f306.body.bind (comp f306.ntmps) = some p306 := by kernel_rfl
abbrev p307 : PC := (⟨_, by conv => lhs; reduce⟩ : Rd (G f307 [])).1
theorem c307 : f307.body.bind (comp f307.ntmps) = some p307 := by kernel_rfl
abbrev p308 : PC := (⟨_, by conv => lhs; reduce⟩ : Rd (G f308 [])).1
theorem c308 : f308.body.bind (comp f308.ntmps) = some p308 := by kernel_rfl
abbrev p309l0 : PC := (⟨_, by conv => lhs; reduce⟩ : Rd (K f309 0 [])).1
abbrev p309 : PC := (⟨_, by conv => lhs; reduce⟩ : Rd (fun a => G f309 [a])).1 p309l0
theorem c309 : f309.body.bind (comp f309.ntmps) = some p309 := by kernel_rfl
abbrev p310l0 : PC := (⟨_, by conv => lhs; reduce⟩ : Rd (K f310 0 [])).1
abbrev p310l1 : PC := (⟨_, by conv => lhs; reduce⟩ : Rd (K f310 1 [])).1
abbrev p310 : PC := (⟨_, by conv => lhs; reduce⟩ : Rd (fun a b => G f310 [a, b])).1 p310l0 p310l1
theorem c310 : f310.body.bind (comp f310.ntmps) = some p310 := by kernel_rfl
abbrev p311 : PC := (⟨_, by conv => lhs; reduce⟩ : Rd (G f311 [])).1
theorem c311 : f311.body.bind (comp f311.ntmps) = some p311 := by kernel_rfl
abbrev p312l0 : PC := (⟨_, by conv => lhs; reduce⟩ : Rd (K f312 0 [])).1
abbrev p312 : PC := (⟨_, by conv => lhs; reduce⟩ : Rd (fun a => G f312 [a])).1 p312l0
theorem c312 : f312.body.bind (comp f312.ntmps) = some p312 := by kernel_rfl
abbrev p313l0 : PC := (⟨_, by conv => lhs; reduce⟩ : Rd (K f313 0 [])).1
abbrev p313 : PC := (⟨_, by conv => lhs; reduce⟩ : Rd (fun a => G f313 [a])).1 p313l0
theorem c313 : f313.body.bind (comp f313.ntmps) = some p313 := by kernel_rfl
abbrev p314 : PC := (⟨_, by conv => lhs; reduce⟩ : Rd (G f314 [])).1
theorem c314 : f314.body.bind (comp f314.ntmps) = some p314 := by kernel_rfl
abbrev p315 : PC := (⟨_, by conv => lhs; reduce⟩ : Rd (G f315 [])).1
theorem c315 : f315.body.bind (comp f315.ntmps) = some p315 := by kernel_rfl
abbrev p316 : PC := (⟨_, by conv => lhs; reduce⟩ : Rd (G f316 [])).1
theorem c316 : f316.body.bind (comp f316.ntmps) = some p316 := by kernel_rfl
abbrev p317 : PC := (⟨_, by conv => lhs; reduce⟩ : Rd (G f317 [])).1
theorem c317 : f317.body.bind (comp f317.ntmps) = some p317 := by kernel_rfl
abbrev p318 : PC := (⟨_, by conv => lhs; reduce⟩ : Rd (G f318 [])).1
theorem c318 : f318.body.bind (comp f318.ntmps) = some p318 := by kernel_rfl
abbrev p319 : PC := (⟨_, by conv => lhs; reduce⟩ : Rd (G f319 [])).1
theorem c319 : f319.body.bind (comp f319.ntmps) = some p319 := by kernel_rfl
abbrev p320 : PC := (⟨_, by conv => lhs; reduce⟩ : Rd (G f320 [])).1
theorem c320 : f320.body.bind (comp f320.ntmps) = some p320 := by kernel_rfl
abbrev p321 : PC := (⟨_, by conv => lhs; reduce⟩ : Rd (G f321 [])).1
theorem c321 : f321.body.bind (comp f321.ntmps) = some p321 := by kernel_rfl
abbrev p322 : PC := (⟨_, by conv => lhs; reduce⟩ : Rd (G f322 [])).1
theorem c322 : f322.body.bind (comp f322.ntmps) = some p322 := by kernel_rfl
abbrev p323 : PC := (⟨_, by conv => lhs; reduce⟩ : Rd (G f323 [])).1
theorem c323 : f323.body.bind (comp f323.ntmps) = some p323 := by kernel_rfl
abbrev p324 : PC := (⟨_, by conv => lhs; reduce⟩ : Rd (G f324 [])).1
theorem c324 : f324.body.bind (comp f324.ntmps) = some p324 := by kernel_rfl
abbrev p325 : PC := (⟨_, by conv => lhs; reduce⟩ : Rd (G f325 [])).1
theorem c325 : f325.body.bind (comp f325.ntmps) = some p325 := by kernel_rfl
abbrev p326 : PC := (⟨_, by conv => lhs; reduce⟩ : Rd (G f326 [])).1
theorem c326 : f326.body.bind (comp f326.ntmps) = some p326 := by kernel_rfl
abbrev p327 : PC := (⟨_, by conv => lhs; reduce⟩ : Rd (G f327 [])).1
theorem c327 : f327.body.bind (comp f327.ntmps) = some p327 := by kernel_rfl
abbrev p328 : PC := (⟨_, by conv => lhs; reduce⟩ : Rd (G f328 [])).1
theorem c328 : f328.body.bind (comp f328.ntmps) = some p328 := by kernel_rfl
abbrev p329 : PC := (⟨_, by conv => lhs; reduce⟩ : Rd (G f329 [])).1
theorem c329 : f329.body.bind (comp f329.ntmps) = some p329 := by kernel_rfl
abbrev p330 : PC := (⟨_, by conv => lhs; reduce⟩ : Rd (G f330 [])).1
theorem c330 : f330.body.bind (comp f330.ntmps) = some p330 := by kernel_rfl
abbrev p331 : PC := (⟨_, by conv => lhs; reduce⟩ : Rd (G f331 [])).1
theorem c331 : f331.body.bind (comp f331.ntmps) = some p331 := by kernel_rfl
abbrev p332l0 : PC := (⟨_, by conv => lhs; reduce⟩ : Rd (K f332 0 [])).1
abbrev p332 : PC := (⟨_, by conv => lhs; reduce⟩ : Rd (fun a => G f332 [a])).1 p332l0
theorem c332 : f332.body.bind (comp f332.ntmps) = some p332 := by kernel_rfl
abbrev p333 : PC := (⟨_, by conv => lhs; reduce⟩ : Rd (G f333 [])).1
theorem c333 : f333.body.bind (comp f333.ntmps) = some p333 := by kernel_rfl
abbrev p334l0 : PC := (⟨_, by conv => lhs; reduce⟩ : Rd (K f334 0 [])).1
abbrev p334 : PC := (⟨_, by conv => lhs; reduce⟩ : Rd (fun a => G f334 [a])).1 p334l0
theorem c334 : f334.body.bind (comp f334.ntmps) = some p334 := by kernel_rfl
abbrev p335 : PC := (⟨_, by conv => lhs; reduce⟩ : Rd (G f335 [])).1
theorem c335 : f335.body.bind (comp f335.ntmps) = some p335 := by kernel_rfl
abbrev p336 : PC := (⟨_, by conv => lhs; reduce⟩ : Rd (G f336 [])).1
theorem c336 : f336.body.bind (comp f336.ntmps) = some p336 := by kernel_rfl
abbrev p337 : PC := (⟨_, by conv => lhs; reduce⟩ : Rd (G f337 [])).1
theorem c337 : f337.body.bind (comp f337.ntmps) = some p337 := by kernel_rfl
abbrev p339l0 : PC := (⟨_, by conv => lhs; reduce⟩ : Rd (K f339 0 [])).1
abbrev p339l1 : PC := (⟨_, by conv => lhs; reduce⟩ : Rd (K f339 1 [])).1
abbrev p339 : PC := (⟨_, by conv => lhs; reduce⟩ : Rd (fun a b => G f339 [a, b])).1 p339l0 p339l1
theorem c339 : f339.body.bind (comp f339.ntmps) = some p339 := by kernel_rfl
abbrev p340 : PC := (⟨_, by conv => lhs; reduce⟩ : Rd (G f340 [])).1
theorem c340 : f340.body.bind (comp f340.ntmps) = some p340 := by kernel_rfl
abbrev p341l0 : PC := (⟨_, by conv => lhs; reduce⟩ : Rd (K f341 0 [])).1
abbrev p341 : PC := (⟨_, by conv => lhs; reduce⟩ : Rd (fun a => G f341 [a])).1 p341l0
theorem c341 : f341.body.bind (comp f341.ntmps) = some p341 := by kernel_rfl
abbrev p342 : PC := (⟨_, by conv => lhs; reduce⟩ : Rd (G f342 [])).1
theorem c342 : f342.body.bind (comp f342.ntmps) = some p342 := by kernel_rfl
abbrev p343 : PC := (⟨_, by conv => lhs; reduce⟩ : Rd (G f343 [])).1
theorem c343 : f343.body.bind (comp f343.ntmps) = some p343 := by kernel_rfl
abbrev p344 : PC := (⟨_, by conv => lhs; reduce⟩ : Rd (G f344 [])).1
theorem c344 : f344.body.bind (comp f344.ntmps) = some p344 := by kernel_rfl
abbrev p345 : PC := (⟨_, by conv => lhs; reduce⟩ : Rd (G f345 [])).1
theorem c345 : f345.body.bind (comp f345.ntmps) = some p345 := by kernel_rfl
abbrev p346l0 : PC := (⟨_, by conv => lhs; reduce⟩ : Rd (K f346 0 [])).1
abbrev p346 : PC := (⟨_, by conv => lhs; reduce⟩ : Rd (fun a => G f346 [a])).1 p346l0
theorem c346 : f346.body.bind (comp f346.ntmps) = some p346 := by kernel_rfl
abbrev p347l0 : PC := (⟨_, by conv => lhs; reduce⟩ : Rd (K f347 0 [])).1
abbrev p347 : PC := (⟨_, by conv => lhs; reduce⟩ : Rd (fun a => G f347 [a])).1 p347l0
theorem c347 : f347.body.bind (comp f347.ntmps) = some p347 := by kernel_rfl
abbrev p348 : PC := (⟨_, by conv => lhs; reduce⟩ : Rd (G f348 [])).1
theorem c348 : f348.body.bind (comp f348.ntmps) = some p348 := by kernel_rfl
abbrev p349l0 : PC := (⟨_, by conv => lhs; reduce⟩ : Rd (K f349 0 [])).1
abbrev p349 : PC := (⟨_, by conv => lhs; reduce⟩ : Rd (fun a => G f349 [a])).1 p349l0
theorem c349 : f349.body.bind (comp f349.ntmps) = some p349 := by kernel_rfl
abbrev p350 : PC := (⟨_, by conv => lhs; reduce⟩ : Rd (G f350 [])).1
theorem c350 : f350.body.bind (comp f350.ntmps) = some p350 := by kernel_rfl
abbrev p351l0 : PC := (⟨_, by conv => lhs; reduce⟩ : Rd (K f351 0 [])).1
abbrev p351 : PC := (⟨_, by conv => lhs; reduce⟩ : Rd (fun a => G f351 [a])).1 p351l0
theorem c351 : f351.body.bind (comp f351.ntmps) = some p351 := by kernel_rfl
abbrev p352l0 : PC := (⟨_, by conv => lhs; reduce⟩ : Rd (K f352 0 [])).1
abbrev p352 : PC := (⟨_, by conv => lhs; reduce⟩ : Rd (fun a => G f352 [a])).1 p352l0
theorem c352 : f352.body.bind (comp f352.ntmps) = some p352 := by kernel_rfl
abbrev p353l0 : PC := (⟨_, by conv => lhs; reduce⟩ : Rd (K f353 0 [])).1
abbrev p353 : PC := (⟨_, by conv => lhs; reduce⟩ : Rd (fun a => G f353 [a])).1 p353l0
theorem c353 : f353.body.bind (comp f353.ntmps) = some p353 := by kernel_rfl
abbrev p354 : PC := (⟨_, by conv => lhs; reduce⟩ : Rd (G f354 [])).1
theorem c354 : f354.body.bind (comp f354.ntmps) = some p354 := by kernel_rfl
abbrev p355 : PC := (⟨_, by conv => lhs; reduce⟩ : Rd (G f355 [])).1
theorem c355 : f355.body.bind (comp f355.ntmps) = some p355 := by kernel_rfl
abbrev p356 : PC := (⟨_, by conv => lhs; reduce⟩ : Rd (G f356 [])).1
theorem c356 : f356.body.bind (comp f356.ntmps) = some p356 := by kernel_rfl
abbrev p357 : PC := (⟨_, by conv => lhs; reduce⟩ : Rd (G f357 [])).1
theorem c357 : f357.body.bind (comp f357.ntmps) = some p357 := by kernel_rfl
abbrev p358 : PC := (⟨_, by conv => lhs; reduce⟩ : Rd (G f358 [])).1
theorem c358 : f358.body.bind (comp f358.ntmps) = some p358 := by kernel_rfl
abbrev p359 : PC := (⟨_, by conv => lhs; reduce⟩ : Rd (G f359 [])).1
theorem c359 : f359.body.bind (comp f359.ntmps) = some p359 := by kernel_rfl
abbrev p360 : PC := (⟨_, by conv => lhs; reduce⟩ : Rd (G f360 [])).1
theorem c360 : f360.body.bind (comp f360.ntmps) = some p360 := by kernel_rfl
abbrev p361 : PC := (⟨_, by conv => lhs; reduce⟩ : Rd (G f361 [])).1
theorem c361 : f361.body.bind (comp f361.ntmps) = some p361 := by kernel_rfl
abbrev p362 : PC := (⟨_, by conv => lhs; reduce⟩ : Rd (G f362 [])).1
theorem c362 : f362.body.bind (comp f362.ntmps) = some p362 := by kernel_rfl
abbrev p363l0 : PC := (⟨_, by conv => lhs; reduce⟩ : Rd (K f363 0 [])).1
abbrev p363l1 : PC := (⟨_, by conv => lhs; reduce⟩ : Rd (fun a => K f363 1 [a])).1 p363l0
abbrev p363 : PC := (⟨_, by conv => lhs; reduce⟩ : Rd (fun a => G f363 [a])).1 p363l1
theorem c363 : f363.body.bind (comp f363.ntmps) = some p363 := by kernel_rfl
abbrev p364l0 : PC := (⟨_, by conv => lhs; reduce⟩ : Rd (K f364 0 [])).1
abbrev p364 : PC := (⟨_, by conv => lhs; reduce⟩ : Rd (fun a => G f364 [a])).1 p364l0
theorem c364 : f364.body.bind (comp f364.ntmps) = some p364 := by kernel_rfl
abbrev p365l0 : PC := (⟨_, by conv => lhs; reduce⟩ : Rd (K f365 0 [])).1
abbrev p365 : PC := (⟨_, by conv => lhs; reduce⟩ : Rd (fun a => G f365 [a])).1 p365l0
theorem c365 : f365.body.bind (comp f365.ntmps) = some p365 := by kernel_rfl
abbrev p366 : PC := (⟨_, by conv => lhs; reduce⟩ : Rd (G f366 [])).1
theorem c366 : f366.body.bind (comp f366.ntmps) = some p366 := by kernel_rfl
abbrev p367l0 : PC := (⟨_, by conv => lhs; reduce⟩ : Rd (K f367 0 [])).1
abbrev p367 : PC := (⟨_, by conv => lhs; reduce⟩ : Rd (fun a => G f367 [a])).1 p367l0
theorem c367 : f367.body.bind (comp f367.ntmps) = some p367 := by kernel_rfl
abbrev p369 : PC := (⟨_, by conv => lhs; reduce⟩ : Rd (G f369 [])).1
theorem c369 : f369.body.bind (comp f369.ntmps) = some p369 := by kernel_rfl
abbrev p370l0 : PC := (⟨_, by conv => lhs; reduce⟩ : Rd (K f370 0 [])).1
abbrev p370l1 : PC := (⟨_, by conv => lhs; reduce⟩ : Rd (fun a => K f370 1 [a])).1 p370l0
abbrev p370 : PC := (⟨_, by conv => lhs; reduce⟩ : Rd (fun a => G f370 [a])).1 p370l1
theorem c370 : f370.body.bind (comp f370.ntmps) = some p370 := by kernel_rfl
abbrev p371l0 : PC := (⟨_, by conv => lhs; reduce⟩ : Rd (K f371 0 [])).1
abbrev p371l1 : PC := (⟨_, by conv => lhs; reduce⟩ : Rd (K f371 1 [])).1
abbrev p371 : PC := (⟨_, by conv => lhs; reduce⟩ : Rd (fun a b => G f371 [a, b])).1 p371l0 p371l1
theorem c371 : f371.body.bind (comp f371.ntmps) = some p371 := by kernel_rfl
abbrev p372l0 : PC := (⟨_, by conv => lhs; reduce⟩ : Rd (K f372 0 [])).1
abbrev p372 : PC := (⟨_, by conv => lhs; reduce⟩ : Rd (fun a => G f372 [a])).1 p372l0
theorem c372 : f372.body.bind (comp f372.ntmps) = some p372 := by kernel_rfl
abbrev p373 : PC := (⟨_, by conv => lhs; reduce⟩ : Rd (G f373 [])).1
theorem c373 : f373.body.bind (comp f373.ntmps) = some p373 := by kernel_rfl
abbrev p374l0 : PC := (⟨_, by conv => lhs; reduce⟩ : Rd (K f374 0 [])).1
abbrev p374 : PC := (⟨_, by conv => lhs; reduce⟩ : Rd (fun a => G f374 [a])).1 p374l0
theorem c374 : f374.body.bind (comp f374.ntmps) = some p374 := by kernel_rfl
abbrev p375l0 : PC := (⟨_, by conv => lhs; reduce⟩ : Rd (K f375 0 [])).1
abbrev p375l1 : PC := (⟨_, by conv => lhs; reduce⟩ : Rd (K f375 1 [])).1
abbrev p375l2 : PC := (⟨_, by conv => lhs; reduce⟩ : Rd (K f375 2 [])).1
abbrev p375l3 : PC := (⟨_, by conv => lhs; reduce⟩ : Rd (fun a b c => K f375 3 [a, b, c])).1 p375l0 p375l1 p375l2
abbrev p375 : PC := (⟨_, by conv => lhs; reduce⟩ : Rd (fun a => G f375 [a])).1 p375l3
theorem c375 : f375.body.bind (comp f375.ntmps) = some p375 := by kernel_rfl
abbrev p376l0 : PC := (⟨_, by conv => lhs; reduce⟩ : Rd (K f376 0 [])).1
abbrev p376l1 : PC := (⟨_, by conv => lhs; reduce⟩ : Rd (K f376 1 [])).1
abbrev p376l2 : PC := (⟨_, by conv => lhs; reduce⟩ : Rd (fun a b => K f376 2 [a, b])).1 p376l0 p376l1
abbrev p376 : PC := (⟨_, by conv => lhs; reduce⟩ : Rd (fun a => G f376 [a])).1 p376l2
theorem c376 : f376.body.bind (comp f376.ntmps) = some p376 := by kernel_rfl
abbrev p377l0 : PC := (⟨_, by conv => lhs; reduce⟩ : Rd (K f377 0 [])).1
abbrev p377l1 : PC := (⟨_, by conv => lhs; reduce⟩ : Rd (K f377 1 [])).1
abbrev p377l2 : PC := (⟨_, by conv => lhs; reduce⟩ : Rd (K f377 2 [])).1
abbrev p377l3 : PC := (⟨_, by conv => lhs; reduce⟩ : Rd (K f377 3 [])).1
abbrev p377l4 : PC := (⟨_, by conv => lhs; reduce⟩ : Rd (fun a b => K f377 4 [a, b])).1 p377l2 p377l3
abbrev p377 : PC := (⟨_, by conv => lhs; reduce⟩ : Rd (fun a b c => G f377 [a, b, c])).1 p377l0 p377l1 p377l4
theorem c377 : f377.body.bind (comp f377.ntmps) = some p377 := by kernel_rfl
abbrev p378 : PC := (⟨_, by conv => lhs; reduce⟩ : Rd (G f378 [])).1
theorem c378 : f378.body.bind (comp f378.ntmps) = some p378 := by kernel_rfl
abbrev p379 : PC := (⟨_, by conv => lhs; reduce⟩ : Rd (G f379 [])).1
theorem c379 : f379.body.bind (comp f379.ntmps) = some p379 := by kernel_rfl
abbrev p380 : PC := (⟨_, by conv => lhs; reduce⟩ : Rd (G f380 [])).1
theorem c380 : f380.body.bind (comp f380.ntmps) = some p380 := by kernel_rfl
abbrev p381 : PC := (⟨_, by conv => lhs; reduce⟩ : Rd (G f381 [])).1
theorem c381 : f381.body.bind (comp f381.ntmps) = some p381 := by kernel_rfl
abbrev p382 : PC := (⟨_, by conv => lhs; reduce⟩ : Rd (G f382 [])).1
theorem c382 : f382.body.bind (comp f382.ntmps) = some p382 := by kernel_rfl
abbrev p383 : PC := (⟨_, by conv => lhs; reduce⟩ : Rd (G f383 [])).1
theorem c383 : f383.body.bind (comp f383.ntmps) = some p383 := by kernel_rfl
abbrev p384l0 : PC := (⟨_, by conv => lhs; reduce⟩ : Rd (K f384 0 [])).1
abbrev p384 : PC := (⟨_, by conv => lhs; reduce⟩ : Rd (fun a => G f384 [a])).1 p384l0
theorem c384 : f384.body.bind (comp f384.ntmps) = some p384 := by kernel_rfl
abbrev p385l0 : PC := (⟨_, by conv => lhs; reduce⟩ : Rd (K f385 0 [])).1
abbrev p385 : PC := (⟨_, by conv => lhs; reduce⟩ : Rd (fun a => G f385 [a])).1 p385l0
theorem c385 : f385.body.bind (comp f385.ntmps) = some p385 := by kernel_rfl
abbrev p386 : PC := (⟨_, by conv => lhs; reduce⟩ : Rd (G f386 [])).1
theorem c386 : f386.body.bind (comp f386.ntmps) = some p386 := by kernel_rfl
abbrev p387 : PC := (⟨_, by conv => lhs; reduce⟩ : Rd (G f387 [])).1
theorem c387 : f387.body.bind (comp f387.ntmps) = some p387 := by kernel_rfl
abbrev p388 : PC := (⟨_, by conv => lhs; reduce⟩ : Rd (G f388 [])).1
theorem c388 : f388.body.bind (comp f388.ntmps) = some p388 := by kernel_rfl
abbrev p389 : PC := (⟨_, by conv => lhs; reduce⟩ : Rd (G f389 [])).1
theorem c389 : f389.body.bind (comp f389.ntmps) = some p389 := by kernel_rfl
abbrev p390l0 : PC := (⟨_, by conv => lhs; reduce⟩ : Rd (K f390 0 [])).1
abbrev p390 : PC := (⟨_, by conv => lhs; reduce⟩ : Rd (fun a => G f390 [a])).1 p390l0
theorem c390 : f390.body.bind (comp f390.ntmps) = some p390 := by kernel_rfl
abbrev p391 : PC := (⟨_, by conv => lhs; reduce⟩ : Rd (G f391 [])).1
theorem c391 : f391.body.bind (comp f391.ntmps) = some p391 := by kernel_rfl
abbrev p392 : PC := (⟨_, by conv => lhs; reduce⟩ : Rd (G f392 [])).1
theorem c392 : f392.body.bind (comp f392.ntmps) = some p392 := by kernel_rfl
abbrev p393 : PC := (⟨_, by conv => lhs; reduce⟩ : Rd (G f393 [])).1
theorem c393 : f393.body.bind (comp f393.ntmps) = some p393 := by kernel_rfl
abbrev p394 : PC := (⟨_, by conv => lhs; reduce⟩ : Rd (G f394 [])).1
theorem c394 : f394.body.bind (comp f394.ntmps) = some p394 := by kernel_rfl
abbrev p395l0 : PC := (⟨_, by conv => lhs; reduce⟩ : Rd (K f395 0 [])).1
abbrev p395 : PC := (⟨_, by conv => lhs; reduce⟩ : Rd (fun a => G f395 [a])).1 p395l0
theorem c395 : f395.body.bind (comp f395.ntmps) = some p395 := by kernel_rfl
abbrev p396l0 : PC := (⟨_, by conv => lhs; reduce⟩ : Rd (K f396 0 [])).1
abbrev p396l1 : PC := (⟨_, by conv => lhs; reduce⟩ : Rd (fun a => K f396 1 [a])).1 p396l0
abbrev p396 : PC := (⟨_, by conv => lhs; reduce⟩ : Rd (fun a => G f396 [a])).1 p396l1
theorem c396 : f396.body.bind (comp f396.ntmps) = some p396 := by kernel_rfl
abbrev p397l0 : PC := (⟨_, by conv => lhs; reduce⟩ : Rd (K f397 0 [])).1
abbrev p397 : PC := (⟨_, by conv => lhs; reduce⟩ : Rd (fun a => G f397 [a])).1 p397l0
theorem c397 : f397.body.bind (comp f397.ntmps) = some p397 := by kernel_rfl
abbrev p398 : PC := (⟨_, by conv => lhs; reduce⟩ : Rd (G f398 [])).1
theorem c398 : f398.body.bind (comp f398.ntmps) = some p398 := by kernel_rfl
abbrev p399 : PC := (⟨_, by conv => lhs; reduce⟩ : Rd (G f399 [])).1
theorem c399 : f399.body.bind (comp f399.ntmps) = some p399 := by kernel_rfl
abbrev p400l0 : PC := (⟨_, by conv => lhs; reduce⟩ : Rd (K f400 0 [])).1
abbrev p400 : PC := (⟨_, by conv => lhs; reduce⟩ : Rd (fun a => G f400 [a])).1 p400l0
theorem c400 : f400.body.bind (comp f400.ntmps) = some p400 := by kernel_rfl
abbrev p401 : PC := (⟨_, by conv => lhs; reduce⟩ : Rd (G f401 [])).1
theorem c401 : f401.body.bind (comp f401.ntmps) = some p401 := by kernel_rfl
abbrev p402 : PC := (⟨_, by conv => lhs; reduce⟩ : Rd (G f402 [])).1
theorem c402 : f402.body.bind (comp f402.ntmps) = some p402 := by kernel_rfl
abbrev p403 : PC := (⟨_, by conv => lhs; reduce⟩ : Rd (G f403 [])).1
theorem c403 : f403.body.bind (comp f403.ntmps) = some p403 := by kernel_rfl
abbrev p404 : PC := (⟨_, by conv => lhs; reduce⟩ : Rd (G f404 [])).1
theorem c404 : f404.body.bind (comp f404.ntmps) = some p404 := by kernel_rfl
abbrev p405 : PC := (⟨_, by conv => lhs; reduce⟩ : Rd (G f405 [])).1
theorem c405 : f405.body.bind (comp f405.ntmps) = some p405 := by kernel_rfl
abbrev p406 : PC := (⟨_, by conv => lhs; reduce⟩ : Rd (G f406 [])).1
theorem c406 : f406.body.bind (comp f406.ntmps) = some p406 := by kernel_rfl
abbrev p407 : PC := (⟨_, by conv => lhs; reduce⟩ : Rd (G f407 [])).1
theorem c407 : f407.body.bind (comp f407.ntmps) = some p407 := by kernel_rfl
abbrev p408 : PC := (⟨_, by conv => lhs; reduce⟩ : Rd (G f408 [])).1
theorem c408 : f408.body.bind (comp f408.ntmps) = some p408 := by kernel_rfl
abbrev p409 : PC := (⟨_, by conv => lhs; reduce⟩ : Rd (G f409 [])).1
theorem c409 : f409.body.bind (comp f409.ntmps) = some p409 := by kernel_rfl
abbrev p410l0 : PC := (⟨_, by conv => lhs; reduce⟩ : Rd (K f410 0 [])).1
abbrev p410 : PC := (⟨_, by conv => lhs; reduce⟩ : Rd (fun a => G f410 [a])).1 p410l0
theorem c410 : f410.body.bind (comp f410.ntmps) = some p410 := by kernel_rfl
abbrev p411 : PC := (⟨_, by conv => lhs; reduce⟩ : Rd (G f411 [])).1
theorem c411 : f411.body.bind (comp f411.ntmps) = some p411 := by kernel_rfl
abbrev p412 : PC := (⟨_, by conv => lhs; reduce⟩ : Rd (G f412 [])).1
theorem c412 : f412.body.bind (comp f412.ntmps) = some p412 := by kernel_rfl
abbrev p413l0 : PC := (⟨_, by conv => lhs; reduce⟩ : Rd (K f413 0 [])).1
abbrev p413 : PC := (⟨_, by conv => lhs; reduce⟩ : Rd (fun a => G f413 [a])).1 p413l0
theorem c413 : f413.body.bind (comp f413.ntmps) = some p413 := by kernel_rfl
abbrev p414 : PC := (⟨_, by conv => lhs; reduce⟩ : Rd (G f414 [])).1
theorem c414 : f414.body.bind (comp f414.ntmps) = some p414 := by kernel_rfl
abbrev p415 : PC := (⟨_, by conv => lhs; reduce⟩ : Rd (G f415 [])).1
theorem c415 : f415.body.bind (comp f415.ntmps) = some p415 := by kernel_rfl
abbrev p416 : PC := (⟨_, by conv => lhs; reduce⟩ : Rd (G f416 [])).1
theorem c416 : f416.body.bind (comp f416.ntmps) = some p416 := by kernel_rfl
abbrev p417 : PC := (⟨_, by conv => lhs; reduce⟩ : Rd (G f417 [])).1
theorem c417 : f417.body.bind (comp f417.ntmps) = some p417 := by kernel_rfl
abbrev p418 : PC := (⟨_, by conv => lhs; reduce⟩ : Rd (G f418 [])).1
theorem c418 : f418.body.bind (comp f418.ntmps) = some p418 := by kernel_rfl
abbrev p419l0 : PC := (⟨_, by conv => lhs; reduce⟩ : Rd (K f419 0 [])).1
abbrev p419l1 : PC := (⟨_, by conv => lhs; reduce⟩ : Rd (K f419 1 [])).1
abbrev p419 : PC := (⟨_, by conv => lhs; reduce⟩ : Rd (fun a b => G f419 [a, b])).1 p419l0 p419l1
theorem c419 : f419.body.bind (comp f419.ntmps) = some p419 := by kernel_rfl
abbrev p420 : PC := (⟨_, by conv => lhs; reduce⟩ : Rd (G f420 [])).1
theorem c420 : f420.body.bind (comp f420.ntmps) = some p420 := by kernel_rfl
abbrev p421l0 : PC := (⟨_, by conv => lhs; reduce⟩ : Rd (K f421 0 [])).1
abbrev p421 : PC := (⟨_, by conv => lhs; reduce⟩ : Rd (fun a => G f421 [a])).1 p421l0
theorem c421 : f421.body.bind (comp f421.ntmps) = some p421 := by kernel_rfl
abbrev p422l0 : PC := (⟨_, by conv => lhs; reduce⟩ : Rd (K f422 0 [])).1
abbrev p422l1 : PC := (⟨_, by conv => lhs; reduce⟩ : Rd (K f422 1 [])).1
abbrev p422 : PC := (⟨_, by conv => lhs; reduce⟩ : Rd (fun a b => G f422 [a, b])).1 p422l0 p422l1
theorem c422 : f422.body.bind (comp f422.ntmps) = some p422 := by kernel_rfl
abbrev p423 : PC := (⟨_, by conv => lhs; reduce⟩ : Rd (G f423 [])).1
theorem c423 : f423.body.bind (comp f423.ntmps) = some p423 := by kernel_rfl
abbrev p424 : PC := (⟨_, by conv => lhs; reduce⟩ : Rd (G f424 [])).1
theorem c424 : f424.body.bind (comp f424.ntmps) = some p424 := by kernel_rfl
abbrev p425l0 : PC := (⟨_, by conv => lhs; reduce⟩ : Rd (K f425 0 [])).1
abbrev p425 : PC := (⟨_, by conv => lhs; reduce⟩ : Rd (fun a => G f425 [a])).1 p425l0
theorem c425 : f425.body.bind (comp f425.ntmps) = some p425 := by kernel_rfl
attribute [simp] results3 ntmps3 results4 ntmps4 results5 ntmps5 results6 ntmps6 results7 ntmps7 results8 ntmps8 results9 ntmps9 results10 ntmps10 results11 ntmps11 results12 ntmps12 results13 ntmps13 results14 ntmps14 results15 ntmps15 results16 ntmps16 results17 ntmps17 results18 ntmps18 results19 ntmps19 results20 ntmps20 results21 ntmps21 results22 ntmps22 results23 ntmps23 results24 ntmps24 results25 ntmps25 results26 ntmps26 results27 ntmps27 results28 ntmps28 results29 ntmps29 results30 ntmps30 results31 ntmps31 results32 ntmps32 results33 ntmps33 results34 ntmps34 results35 ntmps35 results36 ntmps36 results37 ntmps37 results38 ntmps38 results39 ntmps39 results40 ntmps40 results41 ntmps41 results42 ntmps42 results43 ntmps43 results44 ntmps44 results45 ntmps45 results46 ntmps46 results47 ntmps47 results48 ntmps48 results49 ntmps49 results50 ntmps50 results51 ntmps51 results52 ntmps52 results53 ntmps53 results54 ntmps54 results55 ntmps55 results56 ntmps56 results57 ntmps57 results58 ntmps58 results59 ntmps59 results60 ntmps60 results61 ntmps61 results62 ntmps62 results63 ntmps63 results64 ntmps64 results65 ntmps65 results66 ntmps66 results67 ntmps67 results68 ntmps68 results69 ntmps69 results70 ntmps70 results71 ntmps71 results72 ntmps72 results73 ntmps73 results74 ntmps74 results75 ntmps75 results76 ntmps76 results77 ntmps77 results78 ntmps78 results79 ntmps79 results80 ntmps80 results81 ntmps81 results82 ntmps82 results83 ntmps83 results84 ntmps84 results85 ntmps85 results86 ntmps86 results87 ntmps87 results88 ntmps88 results89 ntmps89 results90 ntmps90 results91 ntmps91 results92 ntmps92 results93 ntmps93 results94 ntmps94 results95 ntmps95 results96 ntmps96 results97 ntmps97 results98 ntmps98 results100 ntmps100 results101 ntmps101 results102 ntmps102 results103 ntmps103 results104 ntmps104 results105 ntmps105 results106 ntmps106 results107 ntmps107 results109 ntmps109 results110 ntmps110 results111 ntmps111 results112 ntmps112 results113 ntmps113 results114 ntmps114 results115 ntmps115 results116 ntmps116 results117 ntmps117 results118 ntmps118 results119 ntmps119 results120 ntmps120 results121 ntmps121 results122 ntmps122 results123 ntmps123 results124 ntmps124 results125 ntmps125 results126 ntmps126 results127 ntmps127 results128 ntmps128 results129 ntmps129 results130 ntmps130 results131 ntmps131 results132 ntmps132 results133 ntmps133 results134 ntmps134 results135 ntmps135 results136 ntmps136 results137 ntmps137 results138 ntmps138 results139 ntmps139 results140 ntmps140 results141 ntmps141 results142 ntmps142 results143 ntmps143 results144 ntmps144 results145 ntmps145 results146 ntmps146 results147 ntmps147 results148 ntmps148 results149 ntmps149 results150 ntmps150 results151 ntmps151 results152 ntmps152 results153 ntmps153 results154 ntmps154 results155 ntmps155 results156 ntmps156 results157 ntmps157 results158 ntmps158 results159 ntmps159 results160 ntmps160 results161 ntmps161 results162 ntmps162 results163 ntmps163 results164 ntmps164 results165 ntmps165 results166 ntmps166 results167 ntmps167 results168 ntmps168 results169 ntmps169 results170 ntmps170 results171 ntmps171 results172 ntmps172 results173 ntmps173 results174 ntmps174 results175 ntmps175 results176 ntmps176 results177 ntmps177 results178 ntmps178 results179 ntmps179 results180 ntmps180 results181 ntmps181 results182 ntmps182 results183 ntmps183 results185 ntmps185 results186 ntmps186 results187 ntmps187 results188 ntmps188 results189 ntmps189 results190 ntmps190 results191 ntmps191 results192 ntmps192 results193 ntmps193 results194 ntmps194 results195 ntmps195 results196 ntmps196 results197 ntmps197 results198 ntmps198 results199 ntmps199 results200 ntmps200 results201 ntmps201 results202 ntmps202 results203 ntmps203 results204 ntmps204 results205 ntmps205 results206 ntmps206 results207 ntmps207 results208 ntmps208 results209 ntmps209 results210 ntmps210 results211 ntmps211 results212 ntmps212 results213 ntmps213 results214 ntmps214 results215 ntmps215 results216 ntmps216 results217 ntmps217 results218 ntmps218 results219 ntmps219 results220 ntmps220 results221 ntmps221 results222 ntmps222 results223 ntmps223 results224 ntmps224 results225 ntmps225 results226 ntmps226 results227 ntmps227 results228 ntmps228 results229 ntmps229 results230 ntmps230 results231 ntmps231 results232 ntmps232 results233 ntmps233 results234 ntmps234 results235 ntmps235 results236 ntmps236 results237 ntmps237 results238 ntmps238 results239 ntmps239 results240 ntmps240 results241 ntmps241 results242 ntmps242 results243 ntmps243 results244 ntmps244 results245 ntmps245 results246 ntmps246 results247 ntmps247 results248 ntmps248 results249 ntmps249 results250 ntmps250 results251 ntmps251 results252 ntmps252 results253 ntmps253 results254 ntmps254 results255 ntmps255 results256 ntmps256 results257 ntmps257 results258 ntmps258 results259 ntmps259 results260 ntmps260 results261 ntmps261 results262 ntmps262 results263 ntmps263 results264 ntmps264 results265 ntmps265 results267 ntmps267 results268 ntmps268 results269 ntmps269 results270 ntmps270 results271 ntmps271 results272 ntmps272 results273 ntmps273 results274 ntmps274 results275 ntmps275 results276 ntmps276 results278 ntmps278 results279 ntmps279 results280 ntmps280 results281 ntmps281 results282 ntmps282 results283 ntmps283 results284 ntmps284 results285 ntmps285 results286 ntmps286 results287 ntmps287 results288 ntmps288 results289 ntmps289 results290 ntmps290 results291 ntmps291 results292 ntmps292 results293 ntmps293 results294 ntmps294 results295 ntmps295 results296 ntmps296 results297 ntmps297 results298 ntmps298 results299 ntmps299 results300 ntmps300 results301 ntmps301 results302 ntmps302 results303 ntmps303 results304 ntmps304 results305 ntmps305 results306 ntmps306 results307 ntmps307 results308 ntmps308 results309 ntmps309 results310 ntmps310 results311 ntmps311 results312 ntmps312 results313 ntmps313 results314 ntmps314 results315 ntmps315 results316 ntmps316 results317 ntmps317 results318 ntmps318 results319 ntmps319 results320 ntmps320 results321 ntmps321 results322 ntmps322 results323 ntmps323 results324 ntmps324 results325 ntmps325 results326 ntmps326 results327 ntmps327 results328 ntmps328 results329 ntmps329 results330 ntmps330 results331 ntmps331 results332 ntmps332 results333 ntmps333 results334 ntmps334 results335 ntmps335 results336 ntmps336 results337 ntmps337 results339 ntmps339 results340 ntmps340 results341 ntmps341 results342 ntmps342 results343 ntmps343 results344 ntmps344 results345 ntmps345 results346 ntmps346 results347 ntmps347 results348 ntmps348 results349 ntmps349 results350 ntmps350 results351 ntmps351 results352 ntmps352 results353 ntmps353 results354 ntmps354 results355 ntmps355 results356 ntmps356 results357 ntmps357 results358 ntmps358 results359 ntmps359 results360 ntmps360 results361 ntmps361 results362 ntmps362 results363 ntmps363 results364 ntmps364 results365 ntmps365 results366 ntmps366 results367 ntmps367 results369 ntmps369 results370 ntmps370 results371 ntmps371 results372 ntmps372 results373 ntmps373 results374 ntmps374 results375 ntmps375 results376 ntmps376 results377 ntmps377 results378 ntmps378 results379 ntmps379 results380 ntmps380 results381 ntmps381 results382 ntmps382 results383 ntmps383 results384 ntmps384 results385 ntmps385 results386 ntmps386 results387 ntmps387 results388 ntmps388 results389 ntmps389 results390 ntmps390 results391 ntmps391 results392 ntmps392 results393 ntmps393 results394 ntmps394 results395 ntmps395 results396 ntmps396 results397 ntmps397 results398 ntmps398 results399 ntmps399 results400 ntmps400 results401 ntmps401 results402 ntmps402 results403 ntmps403 results404 ntmps404 results405 ntmps405 results406 ntmps406 results407 ntmps407 results408 ntmps408 results409 ntmps409 results410 ntmps410 results411 ntmps411 results412 ntmps412 results413 ntmps413 results414 ntmps414 results415 ntmps415 results416 ntmps416 results417 ntmps417 results418 ntmps418 results419 ntmps419 results420 ntmps420 results421 ntmps421 results422 ntmps422 results423 ntmps423 results424 ntmps424 results425 ntmps425
end Go.Proofs.Tryz
