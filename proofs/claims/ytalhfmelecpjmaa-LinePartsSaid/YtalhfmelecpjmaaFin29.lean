/- All functions. -/
import Derived.Test.YtalhfmelecpjmaaFin29b
